/- table.Find, over data. -/
import Derived.Test.YtcbjngndlofpfaaTab2
namespace Go.Proofs.Ytcbjngndlofpfaa
open Go.RowKit Go.Sort
set_option linter.unusedVariables false
set_option linter.unusedSimpArgs false

theorem flat_at {α : Type} {s : Nat} : ∀ {L : List (List α)} {k : Nat} {e : List α}, (∀ x ∈ L, x.length = s) → L[k]? = some e → (L.flatten.drop (k * s)).take s = e ∧ k * s + s ≤ L.flatten.length
  | [], k, e, _, h => by simp at h
  | x :: L, 0, e, hs, h => by
    simp only [List.getElem?_cons_zero, Option.some.injEq] at h
    subst h
    have hx := hs x (by simp)
    simp only [List.flatten_cons, Nat.zero_mul, List.drop_zero, Nat.zero_add, List.length_append]
    exact ⟨by rw [← hx]; exact List.take_left, by omega⟩
  | x :: L, k + 1, e, hs, h => by
    have hx := hs x (by simp)
    obtain ⟨h1, h2⟩ := flat_at (fun y hy => hs y (by simp [hy])) (by simpa using h : L[k]? = some e)
    have e1 : (k + 1) * s = x.length + k * s := by rw [hx, Nat.add_mul, Nat.one_mul, Nat.add_comm]
    rw [e1, List.flatten_cons, List.drop_length_add_append, List.length_append]
    exact ⟨h1, by omega⟩

abbrev Four := Int × Int × Int × Int
def Four.l5 (q : Four) : List Int := [0, q.1, q.2.1, q.2.2.1, q.2.2.2]
/-- the cells of a state and its four numbers -/
structure StP (e : List PV) (q : Four) : Prop where
  len : e.length = 41
  h5 : e[5]? = some (.v (.int .i64 q.1))
  h16 : e[16]? = some (.v (.int .i64 q.2.1))
  h27 : e[27]? = some (.v (.int .i64 q.2.2.1))
  h36 : e[36]? = some (.v (.int .i64 q.2.2.2))
def fnd (n : Int) : List Four → Nat → Int × Int × Int
  | [], _ => (0, 0, 5)
  | q :: L, i => if 0 < n ∧ 0 < idxI n q.l5 then (i, idxI n q.l5, 0) else fnd n L (i + 1)
theorem fnd_skip {n : Int} : ∀ {Q : List Four} {i k : Nat}, k ≤ Q.length → (∀ j q, j < k → Q[j]? = some q → ¬ (0 < n ∧ 0 < idxI n q.l5)) → fnd n Q i = fnd n (Q.drop k) (i + k)
  | Q, i, 0, _, _ => by simp
  | [], i, k + 1, h, _ => by simp at h
  | q :: Q, i, k + 1, h, hb => by
    have h0 := hb 0 q (by omega) (by simp)
    rw [fnd, if_neg h0, List.drop_succ_cons, fnd_skip (k := k) (by simpa using h) (fun j q' hj hq => hb (j + 1) q' (by omega) (by simpa using hq))]
    congr 1
    omega

set_option maxRecDepth 100000 in
set_option maxHeartbeats 1000000 in
theorem find_s (L : List (List PV)) (Q : List Four) (N : Nat) (x : Int) (hL : L.length = N) (hQ : Q.length = N) (hm : N ≤ 9223372036854775807) (hst : ∀ (k : Nat) e q, L[k]? = some e → Q[k]? = some q → StP e q) :
    Fn Try.prog 22 [.p (.sl N 41 L.flatten), .p (.v (.int .i64 x))] (.tup [.p (.v (.int .i64 (fnd x Q 0).1)), .p (.v (.int .i64 (fnd x Q 0).2.1)), .p (.v (.int .i64 (fnd x Q 0).2.2))]) [] := by
  have hlen : ∀ e ∈ L, e.length = 41 := by
    intro e he
    obtain ⟨k, hk, rfl⟩ := List.mem_iff_getElem.1 he
    exact (hst k _ (Q[k]'(by omega)) (List.getElem?_eq_getElem hk) (List.getElem?_eq_getElem (by omega))).len
  refine fn_intro Try.func22 rfl (Nat.le_of_ble_eq_true rfl) fun w0 A => ?_
  (repeat (first | refine awp_seq ?_ | refine awp_block ?_ | refine awp_skip ?_ | refine awp_ret ?_ | refine awp_exit ?_ | refine thn_n ?_ | refine thn_r ?_ | refine thn_x ?_ | refine inb_n ?_ | refine inb_r ?_ | refine inb_x ?_ | refine inb_y rfl ?_))
  refine awp_text (by kernel_rfl) ?_
  (first | refine r_pure (a_assign (r := .p _)) rfl rfl ?_ | refine r_pure (a_assign (r := .row _)) rfl rfl ?_ | refine r_pure (a_assign (r := .ref _ _)) rfl rfl ?_ | refine r_pure (a_assign (r := .agg _)) rfl rfl ?_ | refine r_pure (a_assign (r := .psl _ _ _ _)) rfl rfl ?_ | refine r_pure (a_assign (r := .ptr _)) rfl rfl ?_ | refine r_pure (a_assign (r := .tup _)) rfl rfl ?_ | refine r_pure (a_assign (r := .fn _ _)) rfl rfl ?_ | refine r_pure (a_assign (r := .mb _ _)) rfl rfl ?_ | refine r_pure (a_assign (r := .any)) rfl rfl ?_)
  (first | refine r_pure (a_assign (r := .p _)) rfl rfl ?_ | refine r_pure (a_assign (r := .row _)) rfl rfl ?_ | refine r_pure (a_assign (r := .ref _ _)) rfl rfl ?_ | refine r_pure (a_assign (r := .agg _)) rfl rfl ?_ | refine r_pure (a_assign (r := .psl _ _ _ _)) rfl rfl ?_ | refine r_pure (a_assign (r := .ptr _)) rfl rfl ?_ | refine r_pure (a_assign (r := .tup _)) rfl rfl ?_ | refine r_pure (a_assign (r := .fn _ _)) rfl rfl ?_ | refine r_pure (a_assign (r := .mb _ _)) rfl rfl ?_ | refine r_pure (a_assign (r := .any)) rfl rfl ?_)
  (first | refine r_pure (a_assign (r := .p _)) rfl rfl ?_ | refine r_pure (a_assign (r := .row _)) rfl rfl ?_ | refine r_pure (a_assign (r := .ref _ _)) rfl rfl ?_ | refine r_pure (a_assign (r := .agg _)) rfl rfl ?_ | refine r_pure (a_assign (r := .psl _ _ _ _)) rfl rfl ?_ | refine r_pure (a_assign (r := .ptr _)) rfl rfl ?_ | refine r_pure (a_assign (r := .tup _)) rfl rfl ?_ | refine r_pure (a_assign (r := .fn _ _)) rfl rfl ?_ | refine r_pure (a_assign (r := .mb _ _)) rfl rfl ?_ | refine r_pure (a_assign (r := .any)) rfl rfl ?_)
  refine arun_nil ?_
  (repeat (first | refine awp_seq ?_ | refine awp_block ?_ | refine awp_skip ?_ | refine awp_ret ?_ | refine awp_exit ?_ | refine thn_n ?_ | refine thn_r ?_ | refine thn_x ?_ | refine inb_n ?_ | refine inb_r ?_ | refine inb_x ?_ | refine inb_y rfl ?_))
  refine awp_text (by kernel_rfl) ?_
  (first | refine r_pure (a_move (r := .p _)) rfl rfl ?_ | refine r_pure (a_move (r := .row _)) rfl rfl ?_ | refine r_pure (a_move (r := .ref _ _)) rfl rfl ?_ | refine r_pure (a_move (r := .agg _)) rfl rfl ?_ | refine r_pure (a_move (r := .psl _ _ _ _)) rfl rfl ?_ | refine r_pure (a_move (r := .ptr _)) rfl rfl ?_ | refine r_pure (a_move (r := .tup _)) rfl rfl ?_ | refine r_pure (a_move (r := .fn _ _)) rfl rfl ?_ | refine r_pure (a_move (r := .mb _ _)) rfl rfl ?_ | refine r_pure (a_move (r := .any)) rfl rfl ?_)
  (first | refine r_pure (a_lenS Try.underlying37) rfl rfl ?_ | refine r_pure (a_lenNil Try.underlying37) rfl rfl ?_ | refine r_pure (a_lenV Try.underlying37) rfl rfl ?_ | refine r_run (a_lenR Try.underlying37) rfl rfl ⟨rfl, trivial⟩ ?_)
  (first | refine r_pure (a_move (r := .p _)) rfl rfl ?_ | refine r_pure (a_move (r := .row _)) rfl rfl ?_ | refine r_pure (a_move (r := .ref _ _)) rfl rfl ?_ | refine r_pure (a_move (r := .agg _)) rfl rfl ?_ | refine r_pure (a_move (r := .psl _ _ _ _)) rfl rfl ?_ | refine r_pure (a_move (r := .ptr _)) rfl rfl ?_ | refine r_pure (a_move (r := .tup _)) rfl rfl ?_ | refine r_pure (a_move (r := .fn _ _)) rfl rfl ?_ | refine r_pure (a_move (r := .mb _ _)) rfl rfl ?_ | refine r_pure (a_move (r := .any)) rfl rfl ?_)
  refine arun_nil ?_
  (repeat (first | refine awp_seq ?_ | refine awp_block ?_ | refine awp_skip ?_ | refine awp_ret ?_ | refine awp_exit ?_ | refine thn_n ?_ | refine thn_r ?_ | refine thn_x ?_ | refine inb_n ?_ | refine inb_r ?_ | refine inb_x ?_ | refine inb_y rfl ?_))
  refine awp_loopR (fun m st => ∃ k : Nat, m + k = N ∧ (∀ j q, j < k → Q[j]? = some q → ¬ (0 < x ∧ 0 < idxI x q.l5)) ∧ st = St.of [(1, .p (.v (.int .i64 x))), (11, .p (.sl N 41 L.flatten)), (12, .p (.v (.int .i64 N))), (13, .p (.v (.int .i64 k)))] []) N ?_ ?_
  · refine ⟨_, re_of id _ _ ?_ ?_ rfl, 0, by omega, fun j q hj => by omega, rfl⟩
    · (repeat (first | exact trivial | (refine ⟨⟨(by first | rfl | (simp; done) | (simp; omega)), rfl⟩, ?_⟩)))
    · exact trivial
  rintro m st ⟨k, hk, hb, rfl⟩
  (repeat (first | refine awp_seq ?_ | refine awp_block ?_ | refine awp_skip ?_ | refine awp_ret ?_ | refine awp_exit ?_ | refine thn_n ?_ | refine thn_r ?_ | refine thn_x ?_ | refine inb_n ?_ | refine inb_r ?_ | refine inb_x ?_ | refine inb_y rfl ?_))
  refine awp_text (by kernel_rfl) ?_
  (refine r_pure a_lss rfl rfl ?_)
  refine arun_nil ?_
  (repeat (first | refine awp_seq ?_ | refine awp_block ?_ | refine awp_skip ?_ | refine awp_ret ?_ | refine awp_exit ?_ | refine thn_n ?_ | refine thn_r ?_ | refine thn_x ?_ | refine inb_n ?_ | refine inb_r ?_ | refine inb_x ?_ | refine inb_y rfl ?_))
  refine awp_cond _ rfl (fun h => ?_) (fun h => ?_)
  · have hlt : k < N := by simpa using h
    clear h
    obtain ⟨e, he⟩ : ∃ e, L[k]? = some e := ⟨L[k]'(by omega), List.getElem?_eq_getElem (by omega)⟩
    obtain ⟨q, hq⟩ : ∃ q, Q[k]? = some q := ⟨Q[k]'(by omega), List.getElem?_eq_getElem (by omega)⟩
    obtain ⟨g0, g5, g16, g27, g36⟩ := hst k e q he hq
    obtain ⟨f1, f2⟩ := flat_at hlen he
    have f3 : 41 ≤ (L.flatten.drop (k * 41)).length := by rw [List.length_drop]; omega
    (repeat (first | refine awp_seq ?_ | refine awp_block ?_ | refine awp_skip ?_ | refine awp_ret ?_ | refine awp_exit ?_ | refine thn_n ?_ | refine thn_r ?_ | refine thn_x ?_ | refine inb_n ?_ | refine inb_r ?_ | refine inb_x ?_ | refine inb_y rfl ?_))
    refine awp_text (by kernel_rfl) ?_
    (first | refine r_pure (a_move (r := .p _)) rfl rfl ?_ | refine r_pure (a_move (r := .row _)) rfl rfl ?_ | refine r_pure (a_move (r := .ref _ _)) rfl rfl ?_ | refine r_pure (a_move (r := .agg _)) rfl rfl ?_ | refine r_pure (a_move (r := .psl _ _ _ _)) rfl rfl ?_ | refine r_pure (a_move (r := .ptr _)) rfl rfl ?_ | refine r_pure (a_move (r := .tup _)) rfl rfl ?_ | refine r_pure (a_move (r := .fn _ _)) rfl rfl ?_ | refine r_pure (a_move (r := .mb _ _)) rfl rfl ?_ | refine r_pure (a_move (r := .any)) rfl rfl ?_)
    (first | refine r_pure (a_indexAddrS Try.underlying37 sz80 (by omega) (by omega) (by rw [Int.toNat_natCast])) rfl rfl ?_ | refine r_run (a_indexAddrR Try.underlying37 sz80 (by omega) (by omega) (by first | (simp only [Int.toNat_natCast, Nat.mul_one, Nat.zero_add]; rfl) | rfl)) rfl rfl ⟨rfl, trivial⟩ ?_ | refine r_pure (a_indexAddrV Try.underlying37 sz80 (by omega) (by omega) (by first | (simp only [Int.toNat_natCast, Nat.mul_one, Nat.zero_add]; rfl) | rfl)) rfl rfl ?_)
    (first | refine r_run (a_loadN Try.underlying80 rfl sz80 (by first | exact Nat.le_of_ble_eq_true rfl | (simp only [AV.cells, List.length_map]; omega)) (by first | exact take_all (by first | exact Nat.eq_of_beq_eq_true rfl | (simp only [AV.cells, List.length_map]; first | assumption | omega)) | (simp only [List.take_succ_cons, List.take_zero, List.drop_succ_cons, List.drop_zero]; rfl) | rfl)) rfl rfl ⟨rfl, trivial⟩ ?_ | refine r_run (a_loadNr Try.underlying80 rfl sz80 (by omega) (f1)) rfl rfl ⟨rfl, trivial⟩ ?_ | refine r_pure (a_loadNp Try.underlying80 rfl sz80 f3 (f1)) rfl rfl ?_)
    (refine r_run (a_alloc 8 zr80 rfl) rfl rfl ⟨rfl, trivial⟩ ?_)
    (first | refine r_pure (a_assign (r := .p _)) rfl rfl ?_ | refine r_pure (a_assign (r := .row _)) rfl rfl ?_ | refine r_pure (a_assign (r := .ref _ _)) rfl rfl ?_ | refine r_pure (a_assign (r := .agg _)) rfl rfl ?_ | refine r_pure (a_assign (r := .psl _ _ _ _)) rfl rfl ?_ | refine r_pure (a_assign (r := .ptr _)) rfl rfl ?_ | refine r_pure (a_assign (r := .tup _)) rfl rfl ?_ | refine r_pure (a_assign (r := .fn _ _)) rfl rfl ?_ | refine r_pure (a_assign (r := .mb _ _)) rfl rfl ?_ | refine r_pure (a_assign (r := .any)) rfl rfl ?_)
    (first | refine r_run (a_storeAll (Y := .agg _) sz80 rfl (by first | exact Nat.eq_of_beq_eq_true rfl | (simp only [AV.cells, List.length_map]; first | assumption | omega)) (Nat.eq_of_beq_eq_true rfl)) rfl rfl ⟨rfl, trivial⟩ ?_ | refine r_run (a_store (Y := .agg _) sz80 rfl (by first | exact Nat.eq_of_beq_eq_true rfl | (simp only [AV.cells, List.length_map]; first | assumption | omega)) (by first | exact Nat.le_of_ble_eq_true rfl | (simp only [AV.cells, List.length_map]; omega)) (by first | (simp only [setR, AV.cells, List.take_succ_cons, List.take_zero, List.drop_succ_cons, List.drop_zero, List.drop_nil, List.take_nil, List.nil_append, List.cons_append, List.append_nil, List.length_cons, List.length_nil, Nat.reduceAdd, Nat.zero_add, Nat.add_zero]; rfl) | rfl)) rfl rfl ⟨rfl, trivial⟩ ?_ | refine r_run (a_storeR (Y := .agg _) sz80 rfl rfl (by first | rfl | omega) (by omega) rfl) rfl rfl ⟨rfl, trivial⟩ ?_)
    refine arun_nil ?_
    (repeat (first | refine awp_seq ?_ | refine awp_block ?_ | refine awp_skip ?_ | refine awp_ret ?_ | refine awp_exit ?_ | refine thn_n ?_ | refine thn_r ?_ | refine thn_x ?_ | refine inb_n ?_ | refine inb_r ?_ | refine inb_x ?_ | refine inb_y rfl ?_))
    have k5 : (e.map AV.p)[5]? = some (.p (.v (.int .i64 q.1))) := by simp [g5]
    have k16 : (e.map AV.p)[16]? = some (.p (.v (.int .i64 q.2.1))) := by simp [g16]
    have k27 : (e.map AV.p)[27]? = some (.p (.v (.int .i64 q.2.2.1))) := by simp [g27]
    have k36 : (e.map AV.p)[36]? = some (.p (.v (.int .i64 q.2.2.2))) := by simp [g36]
    refine awp_text (by kernel_rfl) ?_
    (first | refine r_run (a_loadN Try.underlying80 rfl sz80 (by first | exact Nat.le_of_ble_eq_true rfl | (simp only [AV.cells, List.length_map]; omega)) (by first | exact take_all (by first | exact Nat.eq_of_beq_eq_true rfl | (simp only [AV.cells, List.length_map]; first | assumption | omega)) | (simp only [List.take_succ_cons, List.take_zero, List.drop_succ_cons, List.drop_zero]; rfl) | rfl)) rfl rfl ⟨rfl, trivial⟩ ?_ | refine r_run (a_loadNr Try.underlying80 rfl sz80 (by omega) (rfl)) rfl rfl ⟨rfl, trivial⟩ ?_ | refine r_pure (a_loadNp Try.underlying80 rfl sz80 (by omega) (rfl)) rfl rfl ?_)
    (refine r_callS (fun n => 19 + 1000 * n) (numbers_s _ _ _ _ _ k5 k16 k27 k36) rfl rfl Try.func53 rfl rfl (by first | rfl | simp [AV.okInL, AV.okIn, okInL_map]) rfl rfl rfl (by first | exact trivial | exact ⟨rfl, trivial⟩ | exact ⟨rfl, rfl, trivial⟩) rfl rfl rfl ?_)
    (refine r_run (a_alloc 9 zr81 rfl) rfl rfl ⟨rfl, trivial⟩ ?_)
    (first | refine r_run (a_storeAll (Y := .agg _) sz81 rfl (by first | exact Nat.eq_of_beq_eq_true rfl | (simp only [AV.cells, List.length_map]; first | assumption | omega)) (Nat.eq_of_beq_eq_true rfl)) rfl rfl ⟨rfl, trivial⟩ ?_ | refine r_run (a_store (Y := .agg _) sz81 rfl (by first | exact Nat.eq_of_beq_eq_true rfl | (simp only [AV.cells, List.length_map]; first | assumption | omega)) (by first | exact Nat.le_of_ble_eq_true rfl | (simp only [AV.cells, List.length_map]; omega)) (by first | (simp only [setR, AV.cells, List.take_succ_cons, List.take_zero, List.drop_succ_cons, List.drop_zero, List.drop_nil, List.take_nil, List.nil_append, List.cons_append, List.append_nil, List.length_cons, List.length_nil, Nat.reduceAdd, Nat.zero_add, Nat.add_zero]; rfl) | rfl)) rfl rfl ⟨rfl, trivial⟩ ?_ | refine r_run (a_storeR (Y := .agg _) sz81 rfl rfl (by first | rfl | omega) (by omega) rfl) rfl rfl ⟨rfl, trivial⟩ ?_)
    refine arun_nil ?_
    (repeat (first | refine awp_seq ?_ | refine awp_block ?_ | refine awp_skip ?_ | refine awp_ret ?_ | refine awp_exit ?_ | refine thn_n ?_ | refine thn_r ?_ | refine thn_x ?_ | refine inb_n ?_ | refine inb_r ?_ | refine inb_x ?_ | refine inb_y rfl ?_))
    refine awp_text (by kernel_rfl) ?_
    (refine r_pure (a_sliceA (L := none) (H := none) Try.underlying81 sz3 rfl rfl (by omega) (by omega) rfl rfl) rfl rfl ?_)
    (first | refine r_pure (a_move (r := .p _)) rfl rfl ?_ | refine r_pure (a_move (r := .row _)) rfl rfl ?_ | refine r_pure (a_move (r := .ref _ _)) rfl rfl ?_ | refine r_pure (a_move (r := .agg _)) rfl rfl ?_ | refine r_pure (a_move (r := .psl _ _ _ _)) rfl rfl ?_ | refine r_pure (a_move (r := .ptr _)) rfl rfl ?_ | refine r_pure (a_move (r := .tup _)) rfl rfl ?_ | refine r_pure (a_move (r := .fn _ _)) rfl rfl ?_ | refine r_pure (a_move (r := .mb _ _)) rfl rfl ?_ | refine r_pure (a_move (r := .any)) rfl rfl ?_)
    (refine r_callV (fun n => 22 + 1000 * n) (index_s q.l5 x 5 rfl (by omega)) rfl rfl Try.func54 rfl rfl (by first | rfl | simp [AV.noSl, AV.noSlL, AObj.noSl, PV.isV, bs_noSl]) (by first | rfl | simp [AV.noSl, AV.noSlL, AObj.noSl, PV.isV, bs_noSl]) rfl rfl rfl (by first | exact trivial | exact ⟨rfl, trivial⟩ | exact ⟨rfl, rfl, trivial⟩) rfl rfl rfl ?_)
    (first | refine r_pure (a_assign (r := .p _)) rfl rfl ?_ | refine r_pure (a_assign (r := .row _)) rfl rfl ?_ | refine r_pure (a_assign (r := .ref _ _)) rfl rfl ?_ | refine r_pure (a_assign (r := .agg _)) rfl rfl ?_ | refine r_pure (a_assign (r := .psl _ _ _ _)) rfl rfl ?_ | refine r_pure (a_assign (r := .ptr _)) rfl rfl ?_ | refine r_pure (a_assign (r := .tup _)) rfl rfl ?_ | refine r_pure (a_assign (r := .fn _ _)) rfl rfl ?_ | refine r_pure (a_assign (r := .mb _ _)) rfl rfl ?_ | refine r_pure (a_assign (r := .any)) rfl rfl ?_)
    refine arun_nil ?_
    (repeat (first | refine awp_seq ?_ | refine awp_block ?_ | refine awp_skip ?_ | refine awp_ret ?_ | refine awp_exit ?_ | refine thn_n ?_ | refine thn_r ?_ | refine thn_x ?_ | refine inb_n ?_ | refine inb_r ?_ | refine inb_x ?_ | refine inb_y rfl ?_))
    refine awp_text (by kernel_rfl) ?_
    (first | refine r_pure (a_move (r := .p _)) rfl rfl ?_ | refine r_pure (a_move (r := .row _)) rfl rfl ?_ | refine r_pure (a_move (r := .ref _ _)) rfl rfl ?_ | refine r_pure (a_move (r := .agg _)) rfl rfl ?_ | refine r_pure (a_move (r := .psl _ _ _ _)) rfl rfl ?_ | refine r_pure (a_move (r := .ptr _)) rfl rfl ?_ | refine r_pure (a_move (r := .tup _)) rfl rfl ?_ | refine r_pure (a_move (r := .fn _ _)) rfl rfl ?_ | refine r_pure (a_move (r := .mb _ _)) rfl rfl ?_ | refine r_pure (a_move (r := .any)) rfl rfl ?_)
    (refine r_pure a_gtr rfl rfl ?_)
    (first | refine r_pure (a_move (r := .p _)) rfl rfl ?_ | refine r_pure (a_move (r := .row _)) rfl rfl ?_ | refine r_pure (a_move (r := .ref _ _)) rfl rfl ?_ | refine r_pure (a_move (r := .agg _)) rfl rfl ?_ | refine r_pure (a_move (r := .psl _ _ _ _)) rfl rfl ?_ | refine r_pure (a_move (r := .ptr _)) rfl rfl ?_ | refine r_pure (a_move (r := .tup _)) rfl rfl ?_ | refine r_pure (a_move (r := .fn _ _)) rfl rfl ?_ | refine r_pure (a_move (r := .mb _ _)) rfl rfl ?_ | refine r_pure (a_move (r := .any)) rfl rfl ?_)
    (first | refine r_mb2 _ rfl rfl (by (repeat (first | exact stripOK_nil | refine stripOK_mb id ?_ | refine stripOK_p ?_ | refine stripOK_ref ?_ | refine stripOK_row ?_ | refine stripOK_ptr ?_ | refine stripOK_agg ?_ | refine stripOK_mb (by simp_all) ?_))) (fun hb => (a_move (r := .p _))) (fun _ => trivial) ?_ | refine r_mb2 _ rfl rfl (by (repeat (first | exact stripOK_nil | refine stripOK_mb id ?_ | refine stripOK_p ?_ | refine stripOK_ref ?_ | refine stripOK_row ?_ | refine stripOK_ptr ?_ | refine stripOK_agg ?_ | refine stripOK_mb (by simp_all) ?_))) (fun hb => (a_move (r := .row _))) (fun _ => trivial) ?_ | refine r_mb2 _ rfl rfl (by (repeat (first | exact stripOK_nil | refine stripOK_mb id ?_ | refine stripOK_p ?_ | refine stripOK_ref ?_ | refine stripOK_row ?_ | refine stripOK_ptr ?_ | refine stripOK_agg ?_ | refine stripOK_mb (by simp_all) ?_))) (fun hb => (a_move (r := .ref _ _))) (fun _ => trivial) ?_ | refine r_mb2 _ rfl rfl (by (repeat (first | exact stripOK_nil | refine stripOK_mb id ?_ | refine stripOK_p ?_ | refine stripOK_ref ?_ | refine stripOK_row ?_ | refine stripOK_ptr ?_ | refine stripOK_agg ?_ | refine stripOK_mb (by simp_all) ?_))) (fun hb => (a_move (r := .agg _))) (fun _ => trivial) ?_ | refine r_mb2 _ rfl rfl (by (repeat (first | exact stripOK_nil | refine stripOK_mb id ?_ | refine stripOK_p ?_ | refine stripOK_ref ?_ | refine stripOK_row ?_ | refine stripOK_ptr ?_ | refine stripOK_agg ?_ | refine stripOK_mb (by simp_all) ?_))) (fun hb => (a_move (r := .psl _ _ _ _))) (fun _ => trivial) ?_ | refine r_mb2 _ rfl rfl (by (repeat (first | exact stripOK_nil | refine stripOK_mb id ?_ | refine stripOK_p ?_ | refine stripOK_ref ?_ | refine stripOK_row ?_ | refine stripOK_ptr ?_ | refine stripOK_agg ?_ | refine stripOK_mb (by simp_all) ?_))) (fun hb => (a_move (r := .ptr _))) (fun _ => trivial) ?_ | refine r_mb2 _ rfl rfl (by (repeat (first | exact stripOK_nil | refine stripOK_mb id ?_ | refine stripOK_p ?_ | refine stripOK_ref ?_ | refine stripOK_row ?_ | refine stripOK_ptr ?_ | refine stripOK_agg ?_ | refine stripOK_mb (by simp_all) ?_))) (fun hb => (a_move (r := .tup _))) (fun _ => trivial) ?_ | refine r_mb2 _ rfl rfl (by (repeat (first | exact stripOK_nil | refine stripOK_mb id ?_ | refine stripOK_p ?_ | refine stripOK_ref ?_ | refine stripOK_row ?_ | refine stripOK_ptr ?_ | refine stripOK_agg ?_ | refine stripOK_mb (by simp_all) ?_))) (fun hb => (a_move (r := .fn _ _))) (fun _ => trivial) ?_ | refine r_mb2 _ rfl rfl (by (repeat (first | exact stripOK_nil | refine stripOK_mb id ?_ | refine stripOK_p ?_ | refine stripOK_ref ?_ | refine stripOK_row ?_ | refine stripOK_ptr ?_ | refine stripOK_agg ?_ | refine stripOK_mb (by simp_all) ?_))) (fun hb => (a_move (r := .mb _ _))) (fun _ => trivial) ?_ | refine r_mb2 _ rfl rfl (by (repeat (first | exact stripOK_nil | refine stripOK_mb id ?_ | refine stripOK_p ?_ | refine stripOK_ref ?_ | refine stripOK_row ?_ | refine stripOK_ptr ?_ | refine stripOK_agg ?_ | refine stripOK_mb (by simp_all) ?_))) (fun hb => (a_move (r := .any))) (fun _ => trivial) ?_)
    (refine r_mb2 _ rfl rfl (by (repeat (first | exact stripOK_nil | refine stripOK_mb id ?_ | refine stripOK_p ?_ | refine stripOK_ref ?_ | refine stripOK_row ?_ | refine stripOK_ptr ?_ | refine stripOK_agg ?_ | refine stripOK_mb (by simp_all) ?_))) (fun hb => a_gtr) (fun _ => trivial) ?_)
    (first | refine r_pure (a_and (by first | exact id | simp)) rfl rfl ?_ | refine r_pure (a_or (by first | exact id | simp)) rfl rfl ?_ | refine r_pure (a_pick rfl rfl) rfl rfl ?_)
    refine arun_nil ?_
    (repeat (first | refine awp_seq ?_ | refine awp_block ?_ | refine awp_skip ?_ | refine awp_ret ?_ | refine awp_exit ?_ | refine thn_n ?_ | refine thn_r ?_ | refine thn_x ?_ | refine inb_n ?_ | refine inb_r ?_ | refine inb_x ?_ | refine inb_y rfl ?_))
    refine awp_cond _ rfl (fun h => ?_) (fun h => ?_)
    · have h2 : 0 < x ∧ 0 < idxI x q.l5 := by simpa using h
      (repeat (first | refine awp_seq ?_ | refine awp_block ?_ | refine awp_skip ?_ | refine awp_ret ?_ | refine awp_exit ?_ | refine thn_n ?_ | refine thn_r ?_ | refine thn_x ?_ | refine inb_n ?_ | refine inb_r ?_ | refine inb_x ?_ | refine inb_y rfl ?_))
      refine awp_text (by kernel_rfl) ?_
      (first | refine r_pure (a_move (r := .p _)) rfl rfl ?_ | refine r_pure (a_move (r := .row _)) rfl rfl ?_ | refine r_pure (a_move (r := .ref _ _)) rfl rfl ?_ | refine r_pure (a_move (r := .agg _)) rfl rfl ?_ | refine r_pure (a_move (r := .psl _ _ _ _)) rfl rfl ?_ | refine r_pure (a_move (r := .ptr _)) rfl rfl ?_ | refine r_pure (a_move (r := .tup _)) rfl rfl ?_ | refine r_pure (a_move (r := .fn _ _)) rfl rfl ?_ | refine r_pure (a_move (r := .mb _ _)) rfl rfl ?_ | refine r_pure (a_move (r := .any)) rfl rfl ?_)
      (first | refine r_pure (a_move (r := .p _)) rfl rfl ?_ | refine r_pure (a_move (r := .row _)) rfl rfl ?_ | refine r_pure (a_move (r := .ref _ _)) rfl rfl ?_ | refine r_pure (a_move (r := .agg _)) rfl rfl ?_ | refine r_pure (a_move (r := .psl _ _ _ _)) rfl rfl ?_ | refine r_pure (a_move (r := .ptr _)) rfl rfl ?_ | refine r_pure (a_move (r := .tup _)) rfl rfl ?_ | refine r_pure (a_move (r := .fn _ _)) rfl rfl ?_ | refine r_pure (a_move (r := .mb _ _)) rfl rfl ?_ | refine r_pure (a_move (r := .any)) rfl rfl ?_)
      (first | refine r_pure (a_assign (r := .p _)) rfl rfl ?_ | refine r_pure (a_assign (r := .row _)) rfl rfl ?_ | refine r_pure (a_assign (r := .ref _ _)) rfl rfl ?_ | refine r_pure (a_assign (r := .agg _)) rfl rfl ?_ | refine r_pure (a_assign (r := .psl _ _ _ _)) rfl rfl ?_ | refine r_pure (a_assign (r := .ptr _)) rfl rfl ?_ | refine r_pure (a_assign (r := .tup _)) rfl rfl ?_ | refine r_pure (a_assign (r := .fn _ _)) rfl rfl ?_ | refine r_pure (a_assign (r := .mb _ _)) rfl rfl ?_ | refine r_pure (a_assign (r := .any)) rfl rfl ?_)
      (first | refine r_pure (a_assign (r := .p _)) rfl rfl ?_ | refine r_pure (a_assign (r := .row _)) rfl rfl ?_ | refine r_pure (a_assign (r := .ref _ _)) rfl rfl ?_ | refine r_pure (a_assign (r := .agg _)) rfl rfl ?_ | refine r_pure (a_assign (r := .psl _ _ _ _)) rfl rfl ?_ | refine r_pure (a_assign (r := .ptr _)) rfl rfl ?_ | refine r_pure (a_assign (r := .tup _)) rfl rfl ?_ | refine r_pure (a_assign (r := .fn _ _)) rfl rfl ?_ | refine r_pure (a_assign (r := .mb _ _)) rfl rfl ?_ | refine r_pure (a_assign (r := .any)) rfl rfl ?_)
      (first | refine r_pure (a_assign (r := .p _)) rfl rfl ?_ | refine r_pure (a_assign (r := .row _)) rfl rfl ?_ | refine r_pure (a_assign (r := .ref _ _)) rfl rfl ?_ | refine r_pure (a_assign (r := .agg _)) rfl rfl ?_ | refine r_pure (a_assign (r := .psl _ _ _ _)) rfl rfl ?_ | refine r_pure (a_assign (r := .ptr _)) rfl rfl ?_ | refine r_pure (a_assign (r := .tup _)) rfl rfl ?_ | refine r_pure (a_assign (r := .fn _ _)) rfl rfl ?_ | refine r_pure (a_assign (r := .mb _ _)) rfl rfl ?_ | refine r_pure (a_assign (r := .any)) rfl rfl ?_)
      refine arun_nil ?_
      (repeat (first | refine awp_seq ?_ | refine awp_block ?_ | refine awp_skip ?_ | refine awp_ret ?_ | refine awp_exit ?_ | refine thn_n ?_ | refine thn_r ?_ | refine thn_x ?_ | refine inb_n ?_ | refine inb_r ?_ | refine inb_x ?_ | refine inb_y rfl ?_))
      refine ⟨(by first | exact .inl rfl | exact .inr rfl), _, (fun o => o), (.tmp _ _ _ _ rfl (.tmp _ _ _ _ rfl (.tmp _ _ _ _ rfl .nil))), ?_, rfl, ?_, rfl⟩
      · have hf : fnd x Q 0 = ((k : Int), idxI x q.l5, 0) := by
          rw [fnd_skip (n := x) (Q := Q) (i := 0) (k := k) (by omega) hb, List.drop_eq_getElem_cons (show k < Q.length by omega)]
          have e2 : Q[k]'(by omega) = q := (List.getElem?_eq_some_iff.1 hq).2
          rw [e2, fnd, if_pos h2, Nat.zero_add]
        rw [hf]
        exact rfl
      · exact trivial
    · have h2 : ¬ (0 < x ∧ 0 < idxI x q.l5) := by simpa using h
      (repeat (first | refine awp_seq ?_ | refine awp_block ?_ | refine awp_skip ?_ | refine awp_ret ?_ | refine awp_exit ?_ | refine thn_n ?_ | refine thn_r ?_ | refine thn_x ?_ | refine inb_n ?_ | refine inb_r ?_ | refine inb_x ?_ | refine inb_y rfl ?_))
      refine awp_text (by kernel_rfl) ?_
      (refine r_pure (a_add (by first | exact IntWalk.i64_in _ (by omega) | rfl)) rfl rfl ?_)
      (first | refine r_pure (a_move (r := .p _)) rfl rfl ?_ | refine r_pure (a_move (r := .row _)) rfl rfl ?_ | refine r_pure (a_move (r := .ref _ _)) rfl rfl ?_ | refine r_pure (a_move (r := .agg _)) rfl rfl ?_ | refine r_pure (a_move (r := .psl _ _ _ _)) rfl rfl ?_ | refine r_pure (a_move (r := .ptr _)) rfl rfl ?_ | refine r_pure (a_move (r := .tup _)) rfl rfl ?_ | refine r_pure (a_move (r := .fn _ _)) rfl rfl ?_ | refine r_pure (a_move (r := .mb _ _)) rfl rfl ?_ | refine r_pure (a_move (r := .any)) rfl rfl ?_)
      refine arun_nil ?_
      (repeat (first | refine awp_seq ?_ | refine awp_block ?_ | refine awp_skip ?_ | refine awp_ret ?_ | refine awp_exit ?_ | refine thn_n ?_ | refine thn_r ?_ | refine thn_x ?_ | refine inb_n ?_ | refine inb_r ?_ | refine inb_x ?_ | refine inb_y rfl ?_))
      refine ⟨m - 1, by omega, _, re_of id _ _ ?_ ?_ rfl, k + 1, by omega, fun j q' hj hj2 => ?_, rfl⟩
      · (repeat (first | exact trivial | (refine ⟨⟨(by first | rfl | (simp; done) | (simp; omega)), rfl⟩, ?_⟩)))
      · exact trivial
      · by_cases ej : j = k
        · subst ej; rw [hq] at hj2; cases hj2; exact h2
        · exact hb j q' (by omega) hj2
  · have hge : ¬ k < N := by simpa using h
    obtain rfl : k = N := by omega
    have hf : fnd x Q 0 = (0, 0, 5) := by
      rw [fnd_skip (n := x) (Q := Q) (i := 0) (k := k) (by omega) hb, List.drop_of_length_le (by omega)]; rfl
    (repeat (first | refine awp_seq ?_ | refine awp_block ?_ | refine awp_skip ?_ | refine awp_ret ?_ | refine awp_exit ?_ | refine thn_n ?_ | refine thn_r ?_ | refine thn_x ?_ | refine inb_n ?_ | refine inb_r ?_ | refine inb_x ?_ | refine inb_y rfl ?_))
    refine awp_text (by kernel_rfl) ?_
    (first | refine r_pure (a_assign (r := .p _)) rfl rfl ?_ | refine r_pure (a_assign (r := .row _)) rfl rfl ?_ | refine r_pure (a_assign (r := .ref _ _)) rfl rfl ?_ | refine r_pure (a_assign (r := .agg _)) rfl rfl ?_ | refine r_pure (a_assign (r := .psl _ _ _ _)) rfl rfl ?_ | refine r_pure (a_assign (r := .ptr _)) rfl rfl ?_ | refine r_pure (a_assign (r := .tup _)) rfl rfl ?_ | refine r_pure (a_assign (r := .fn _ _)) rfl rfl ?_ | refine r_pure (a_assign (r := .mb _ _)) rfl rfl ?_ | refine r_pure (a_assign (r := .any)) rfl rfl ?_)
    (first | refine r_pure (a_assign (r := .p _)) rfl rfl ?_ | refine r_pure (a_assign (r := .row _)) rfl rfl ?_ | refine r_pure (a_assign (r := .ref _ _)) rfl rfl ?_ | refine r_pure (a_assign (r := .agg _)) rfl rfl ?_ | refine r_pure (a_assign (r := .psl _ _ _ _)) rfl rfl ?_ | refine r_pure (a_assign (r := .ptr _)) rfl rfl ?_ | refine r_pure (a_assign (r := .tup _)) rfl rfl ?_ | refine r_pure (a_assign (r := .fn _ _)) rfl rfl ?_ | refine r_pure (a_assign (r := .mb _ _)) rfl rfl ?_ | refine r_pure (a_assign (r := .any)) rfl rfl ?_)
    (first | refine r_pure (a_assign (r := .p _)) rfl rfl ?_ | refine r_pure (a_assign (r := .row _)) rfl rfl ?_ | refine r_pure (a_assign (r := .ref _ _)) rfl rfl ?_ | refine r_pure (a_assign (r := .agg _)) rfl rfl ?_ | refine r_pure (a_assign (r := .psl _ _ _ _)) rfl rfl ?_ | refine r_pure (a_assign (r := .ptr _)) rfl rfl ?_ | refine r_pure (a_assign (r := .tup _)) rfl rfl ?_ | refine r_pure (a_assign (r := .fn _ _)) rfl rfl ?_ | refine r_pure (a_assign (r := .mb _ _)) rfl rfl ?_ | refine r_pure (a_assign (r := .any)) rfl rfl ?_)
    refine arun_nil ?_
    (repeat (first | refine awp_seq ?_ | refine awp_block ?_ | refine awp_skip ?_ | refine awp_ret ?_ | refine awp_exit ?_ | refine thn_n ?_ | refine thn_r ?_ | refine thn_x ?_ | refine inb_n ?_ | refine inb_r ?_ | refine inb_x ?_ | refine inb_y rfl ?_))
    refine ⟨(by first | exact .inl rfl | exact .inr rfl), _, (fun o => o), (.tmp _ _ _ _ rfl (.tmp _ _ _ _ rfl (.tmp _ _ _ _ rfl .nil))), ?_, rfl, ?_, rfl⟩
    · rw [hf]; first | done | (refine (?_ : _ = _); kernel_rfl)
    · exact trivial
end Go.Proofs.Ytcbjngndlofpfaa
