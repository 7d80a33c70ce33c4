/- The references' StateOf and StatesMost, and the law TableSeeks, over data. -/
import Derived.Test.YtcbjngndlofpfaaTab5
namespace Go.Proofs.Ytcbjngndlofpfaa
open Go.RowKit Go.Sort
set_option linter.unusedVariables false
set_option linter.unusedSimpArgs false

set_option maxRecDepth 100000 in
theorem given_s (X : List AV) (a b c d : Int) (h5 : X[5]? = some (.p (.v (.int .i64 a)))) (h16 : X[16]? = some (.p (.v (.int .i64 b)))) (h27 : X[27]? = some (.p (.v (.int .i64 c)))) (h36 : X[36]? = some (.p (.v (.int .i64 d)))) :
    Fn Try.prog 55 [.agg X] (.row 0) [(0, .row 3 1 4 (is [a, b, c, d]))] := by
  refine fn_intro Try.func55 rfl (Nat.le_of_ble_eq_true rfl) fun w0 A => ?_
  (repeat (first | refine awp_seq ?_ | refine awp_block ?_ | refine awp_skip ?_ | refine awp_ret ?_ | refine awp_exit ?_ | refine thn_n ?_ | refine thn_r ?_ | refine thn_x ?_ | refine inb_n ?_ | refine inb_r ?_ | refine inb_x ?_ | refine inb_y rfl ?_))
  refine awp_text (by kernel_rfl) ?_
  (refine r_run (a_box (X := .agg _) 1 rfl) rfl rfl ⟨rfl, trivial⟩ ?_)
  (first | refine r_pure (a_assign (r := .p _)) rfl rfl ?_ | refine r_pure (a_assign (r := .row _)) rfl rfl ?_ | refine r_pure (a_assign (r := .ref _ _)) rfl rfl ?_ | refine r_pure (a_assign (r := .agg _)) rfl rfl ?_ | refine r_pure (a_assign (r := .psl _ _ _ _)) rfl rfl ?_ | refine r_pure (a_assign (r := .ptr _)) rfl rfl ?_ | refine r_pure (a_assign (r := .tup _)) rfl rfl ?_ | refine r_pure (a_assign (r := .fn _ _)) rfl rfl ?_ | refine r_pure (a_assign (r := .mb _ _)) rfl rfl ?_ | refine r_pure (a_assign (r := .any)) rfl rfl ?_)
  refine arun_nil ?_
  (repeat (first | refine awp_seq ?_ | refine awp_block ?_ | refine awp_skip ?_ | refine awp_ret ?_ | refine awp_exit ?_ | refine thn_n ?_ | refine thn_r ?_ | refine thn_x ?_ | refine inb_n ?_ | refine inb_r ?_ | refine inb_x ?_ | refine inb_y rfl ?_))
  refine awp_text (by kernel_rfl) ?_
  (first | refine r_pure (b_fieldAddr fi80_2 rfl) rfl rfl ?_ | refine r_pure (b_fieldAddrP fi80_2 rfl) rfl rfl ?_)
  (first | refine r_pure (b_fieldAddr fi75_0 rfl) rfl rfl ?_ | refine r_pure (b_fieldAddrP fi75_0 rfl) rfl rfl ?_)
  (first | refine r_pure (b_fieldAddr fi73_3 rfl) rfl rfl ?_ | refine r_pure (b_fieldAddrP fi73_3 rfl) rfl rfl ?_)
  (first | refine r_run (a_load1 Try.underlying3 rfl (by first | rfl | assumption)) rfl rfl ⟨rfl, trivial⟩ ?_ | refine r_run (a_load1r Try.underlying3 rfl (by first | rfl | assumption | ((try simp only [List.getElem?_drop, List.getElem?_take, Int.toNat_natCast, Nat.mul_one, Nat.add_zero, Nat.zero_add]); first | assumption | rfl))) rfl rfl ⟨rfl, trivial⟩ ?_ | refine r_pure (a_load1p Try.underlying3 rfl (by first | rfl | assumption | ((try simp only [List.getElem?_drop, List.getElem?_take, Int.toNat_natCast, Nat.mul_one, Nat.add_zero, Nat.zero_add]); first | assumption | rfl))) rfl rfl ?_)
  (first | refine r_pure (b_fieldAddr fi80_2 rfl) rfl rfl ?_ | refine r_pure (b_fieldAddrP fi80_2 rfl) rfl rfl ?_)
  (first | refine r_pure (b_fieldAddr fi75_1 rfl) rfl rfl ?_ | refine r_pure (b_fieldAddrP fi75_1 rfl) rfl rfl ?_)
  (first | refine r_pure (b_fieldAddr fi73_3 rfl) rfl rfl ?_ | refine r_pure (b_fieldAddrP fi73_3 rfl) rfl rfl ?_)
  (first | refine r_run (a_load1 Try.underlying3 rfl (by first | rfl | assumption)) rfl rfl ⟨rfl, trivial⟩ ?_ | refine r_run (a_load1r Try.underlying3 rfl (by first | rfl | assumption | ((try simp only [List.getElem?_drop, List.getElem?_take, Int.toNat_natCast, Nat.mul_one, Nat.add_zero, Nat.zero_add]); first | assumption | rfl))) rfl rfl ⟨rfl, trivial⟩ ?_ | refine r_pure (a_load1p Try.underlying3 rfl (by first | rfl | assumption | ((try simp only [List.getElem?_drop, List.getElem?_take, Int.toNat_natCast, Nat.mul_one, Nat.add_zero, Nat.zero_add]); first | assumption | rfl))) rfl rfl ?_)
  (first | refine r_pure (b_fieldAddr fi80_2 rfl) rfl rfl ?_ | refine r_pure (b_fieldAddrP fi80_2 rfl) rfl rfl ?_)
  (first | refine r_pure (b_fieldAddr fi75_2 rfl) rfl rfl ?_ | refine r_pure (b_fieldAddrP fi75_2 rfl) rfl rfl ?_)
  (first | refine r_pure (b_fieldAddr fi73_3 rfl) rfl rfl ?_ | refine r_pure (b_fieldAddrP fi73_3 rfl) rfl rfl ?_)
  (first | refine r_run (a_load1 Try.underlying3 rfl (by first | rfl | assumption)) rfl rfl ⟨rfl, trivial⟩ ?_ | refine r_run (a_load1r Try.underlying3 rfl (by first | rfl | assumption | ((try simp only [List.getElem?_drop, List.getElem?_take, Int.toNat_natCast, Nat.mul_one, Nat.add_zero, Nat.zero_add]); first | assumption | rfl))) rfl rfl ⟨rfl, trivial⟩ ?_ | refine r_pure (a_load1p Try.underlying3 rfl (by first | rfl | assumption | ((try simp only [List.getElem?_drop, List.getElem?_take, Int.toNat_natCast, Nat.mul_one, Nat.add_zero, Nat.zero_add]); first | assumption | rfl))) rfl rfl ?_)
  (first | refine r_pure (b_fieldAddr fi80_3 rfl) rfl rfl ?_ | refine r_pure (b_fieldAddrP fi80_3 rfl) rfl rfl ?_)
  (first | refine r_pure (b_fieldAddr fi77_1 rfl) rfl rfl ?_ | refine r_pure (b_fieldAddrP fi77_1 rfl) rfl rfl ?_)
  (first | refine r_run (a_load1 Try.underlying3 rfl (by first | rfl | assumption)) rfl rfl ⟨rfl, trivial⟩ ?_ | refine r_run (a_load1r Try.underlying3 rfl (by first | rfl | assumption | ((try simp only [List.getElem?_drop, List.getElem?_take, Int.toNat_natCast, Nat.mul_one, Nat.add_zero, Nat.zero_add]); first | assumption | rfl))) rfl rfl ⟨rfl, trivial⟩ ?_ | refine r_pure (a_load1p Try.underlying3 rfl (by first | rfl | assumption | ((try simp only [List.getElem?_drop, List.getElem?_take, Int.toNat_natCast, Nat.mul_one, Nat.add_zero, Nat.zero_add]); first | assumption | rfl))) rfl rfl ?_)
  (refine r_run (a_buildSlice 18 Try.underlying84 sz3 zc3 (Nat.le_of_ble_eq_true rfl) (Nat.le_of_ble_eq_true rfl) rfl rfl rfl rfl (Nat.le_of_ble_eq_true rfl)) rfl rfl ⟨rfl, trivial⟩ ?_)
  (first | refine r_pure (a_assign (r := .p _)) rfl rfl ?_ | refine r_pure (a_assign (r := .row _)) rfl rfl ?_ | refine r_pure (a_assign (r := .ref _ _)) rfl rfl ?_ | refine r_pure (a_assign (r := .agg _)) rfl rfl ?_ | refine r_pure (a_assign (r := .psl _ _ _ _)) rfl rfl ?_ | refine r_pure (a_assign (r := .ptr _)) rfl rfl ?_ | refine r_pure (a_assign (r := .tup _)) rfl rfl ?_ | refine r_pure (a_assign (r := .fn _ _)) rfl rfl ?_ | refine r_pure (a_assign (r := .mb _ _)) rfl rfl ?_ | refine r_pure (a_assign (r := .any)) rfl rfl ?_)
  refine arun_nil ?_
  (repeat (first | refine awp_seq ?_ | refine awp_block ?_ | refine awp_skip ?_ | refine awp_ret ?_ | refine awp_exit ?_ | refine thn_n ?_ | refine thn_r ?_ | refine thn_x ?_ | refine inb_n ?_ | refine inb_r ?_ | refine inb_x ?_ | refine inb_y rfl ?_))
  refine ⟨(by first | exact .inl rfl | exact .inr rfl), _, (fun _ => 18), (.tmp _ _ _ _ rfl .nil), ?_, rfl, ?_, rfl⟩
  · rfl
  · exact ⟨⟨rfl, rfl⟩, trivial⟩

theorem idx_l5 {x : Int} {q : Four} (hx : 0 < x) {j : Nat} (h : idxI x q.l4 = j) : idxI x q.l5 = j + 1 := by
  show (if x = 0 then 0 else if idxI x q.l4 < 0 then -1 else idxI x q.l4 + 1) = _
  rw [if_neg (by omega), h, if_neg (by omega)]
theorem idx_l5n {x : Int} {q : Four} (hx : 0 < x) (h : idxI x q.l4 = -1) : idxI x q.l5 = -1 := by
  show (if x = 0 then 0 else if idxI x q.l4 < 0 then -1 else idxI x q.l4 + 1) = _
  rw [if_neg (by omega), h]; rfl

set_option maxRecDepth 100000 in
set_option maxHeartbeats 1000000 in
theorem stateOf_s (L : List (List PV)) (Q : List Four) (N : Nat) (x : Int) (hL : L.length = N) (hQ : Q.length = N) (hm : N ≤ 9223372036854775807) (hst : ∀ (k : Nat) e q, L[k]? = some e → Q[k]? = some q → StP e q) :
    Fn Try.prog 24 [.p (.sl N 41 L.flatten), .p (.v (.int .i64 x))] (.tup [.p (.v (.int .i64 (fnd x Q 0).1)), .p (.v (.int .i64 (fnd x Q 0).2.1)), .p (.v (.int .i64 (fnd x Q 0).2.2))]) [] := by
  have hlen : ∀ e ∈ L, e.length = 41 := by
    intro e he
    obtain ⟨k, hk, rfl⟩ := List.mem_iff_getElem.1 he
    exact (hst k _ (Q[k]'(by omega)) (List.getElem?_eq_getElem hk) (List.getElem?_eq_getElem (by omega))).len
  refine fn_intro Try.func24 rfl (Nat.le_of_ble_eq_true rfl) fun w0 A => ?_
  (repeat (first | refine awp_seq ?_ | refine awp_block ?_ | refine awp_skip ?_ | refine awp_ret ?_ | refine awp_exit ?_ | refine thn_n ?_ | refine thn_r ?_ | refine thn_x ?_ | refine inb_n ?_ | refine inb_r ?_ | refine inb_x ?_ | refine inb_y rfl ?_))
  refine awp_text (by kernel_rfl) ?_
  (first | refine r_pure (a_assign (r := .p _)) rfl rfl ?_ | refine r_pure (a_assign (r := .row _)) rfl rfl ?_ | refine r_pure (a_assign (r := .ref _ _)) rfl rfl ?_ | refine r_pure (a_assign (r := .agg _)) rfl rfl ?_ | refine r_pure (a_assign (r := .psl _ _ _ _)) rfl rfl ?_ | refine r_pure (a_assign (r := .ptr _)) rfl rfl ?_ | refine r_pure (a_assign (r := .tup _)) rfl rfl ?_ | refine r_pure (a_assign (r := .fn _ _)) rfl rfl ?_ | refine r_pure (a_assign (r := .mb _ _)) rfl rfl ?_ | refine r_pure (a_assign (r := .any)) rfl rfl ?_)
  (first | refine r_pure (a_assign (r := .p _)) rfl rfl ?_ | refine r_pure (a_assign (r := .row _)) rfl rfl ?_ | refine r_pure (a_assign (r := .ref _ _)) rfl rfl ?_ | refine r_pure (a_assign (r := .agg _)) rfl rfl ?_ | refine r_pure (a_assign (r := .psl _ _ _ _)) rfl rfl ?_ | refine r_pure (a_assign (r := .ptr _)) rfl rfl ?_ | refine r_pure (a_assign (r := .tup _)) rfl rfl ?_ | refine r_pure (a_assign (r := .fn _ _)) rfl rfl ?_ | refine r_pure (a_assign (r := .mb _ _)) rfl rfl ?_ | refine r_pure (a_assign (r := .any)) rfl rfl ?_)
  (first | refine r_pure (a_assign (r := .p _)) rfl rfl ?_ | refine r_pure (a_assign (r := .row _)) rfl rfl ?_ | refine r_pure (a_assign (r := .ref _ _)) rfl rfl ?_ | refine r_pure (a_assign (r := .agg _)) rfl rfl ?_ | refine r_pure (a_assign (r := .psl _ _ _ _)) rfl rfl ?_ | refine r_pure (a_assign (r := .ptr _)) rfl rfl ?_ | refine r_pure (a_assign (r := .tup _)) rfl rfl ?_ | refine r_pure (a_assign (r := .fn _ _)) rfl rfl ?_ | refine r_pure (a_assign (r := .mb _ _)) rfl rfl ?_ | refine r_pure (a_assign (r := .any)) rfl rfl ?_)
  refine arun_nil ?_
  (repeat (first | refine awp_seq ?_ | refine awp_block ?_ | refine awp_skip ?_ | refine awp_ret ?_ | refine awp_exit ?_ | refine thn_n ?_ | refine thn_r ?_ | refine thn_x ?_ | refine inb_n ?_ | refine inb_r ?_ | refine inb_x ?_ | refine inb_y rfl ?_))
  refine awp_text (by kernel_rfl) ?_
  (first | refine r_pure (a_move (r := .p _)) rfl rfl ?_ | refine r_pure (a_move (r := .row _)) rfl rfl ?_ | refine r_pure (a_move (r := .ref _ _)) rfl rfl ?_ | refine r_pure (a_move (r := .agg _)) rfl rfl ?_ | refine r_pure (a_move (r := .psl _ _ _ _)) rfl rfl ?_ | refine r_pure (a_move (r := .ptr _)) rfl rfl ?_ | refine r_pure (a_move (r := .tup _)) rfl rfl ?_ | refine r_pure (a_move (r := .fn _ _)) rfl rfl ?_ | refine r_pure (a_move (r := .mb _ _)) rfl rfl ?_ | refine r_pure (a_move (r := .any)) rfl rfl ?_)
  (first | refine r_pure (a_lenS Try.underlying37) rfl rfl ?_ | refine r_pure (a_lenNil Try.underlying37) rfl rfl ?_ | refine r_pure (a_lenV Try.underlying37) rfl rfl ?_ | refine r_run (a_lenR Try.underlying37) rfl rfl ⟨rfl, trivial⟩ ?_)
  (first | refine r_pure (a_move (r := .p _)) rfl rfl ?_ | refine r_pure (a_move (r := .row _)) rfl rfl ?_ | refine r_pure (a_move (r := .ref _ _)) rfl rfl ?_ | refine r_pure (a_move (r := .agg _)) rfl rfl ?_ | refine r_pure (a_move (r := .psl _ _ _ _)) rfl rfl ?_ | refine r_pure (a_move (r := .ptr _)) rfl rfl ?_ | refine r_pure (a_move (r := .tup _)) rfl rfl ?_ | refine r_pure (a_move (r := .fn _ _)) rfl rfl ?_ | refine r_pure (a_move (r := .mb _ _)) rfl rfl ?_ | refine r_pure (a_move (r := .any)) rfl rfl ?_)
  refine arun_nil ?_
  (repeat (first | refine awp_seq ?_ | refine awp_block ?_ | refine awp_skip ?_ | refine awp_ret ?_ | refine awp_exit ?_ | refine thn_n ?_ | refine thn_r ?_ | refine thn_x ?_ | refine inb_n ?_ | refine inb_r ?_ | refine inb_x ?_ | refine inb_y rfl ?_))
  refine awp_loopR (fun m st => ∃ k : Nat, m + k = N ∧ (∀ j q, j < k → Q[j]? = some q → ¬ (0 < x ∧ 0 < idxI x q.l5)) ∧ st = St.of [(1, .p (.v (.int .i64 x))), (11, .p (.sl N 41 L.flatten)), (12, .p (.v (.int .i64 N))), (13, .p (.v (.int .i64 k)))] []) N ?_ ?_
  · refine ⟨_, re_of id _ _ ?_ ?_ rfl, 0, by omega, fun j q hj => by omega, rfl⟩
    · (repeat (first | exact trivial | (refine ⟨⟨(by first | rfl | (simp; done) | (simp; omega)), rfl⟩, ?_⟩)))
    · exact trivial
  rintro m st ⟨k, hk, hb, rfl⟩
  (repeat (first | refine awp_seq ?_ | refine awp_block ?_ | refine awp_skip ?_ | refine awp_ret ?_ | refine awp_exit ?_ | refine thn_n ?_ | refine thn_r ?_ | refine thn_x ?_ | refine inb_n ?_ | refine inb_r ?_ | refine inb_x ?_ | refine inb_y rfl ?_))
  refine awp_text (by kernel_rfl) ?_
  (refine r_pure a_lss rfl rfl ?_)
  refine arun_nil ?_
  (repeat (first | refine awp_seq ?_ | refine awp_block ?_ | refine awp_skip ?_ | refine awp_ret ?_ | refine awp_exit ?_ | refine thn_n ?_ | refine thn_r ?_ | refine thn_x ?_ | refine inb_n ?_ | refine inb_r ?_ | refine inb_x ?_ | refine inb_y rfl ?_))
  refine awp_cond _ rfl (fun h => ?_) (fun h => ?_)
  · have hlt : k < N := by simpa using h
    clear h
    obtain ⟨e, he⟩ : ∃ e, L[k]? = some e := ⟨L[k]'(by omega), List.getElem?_eq_getElem (by omega)⟩
    obtain ⟨q, hq⟩ : ∃ q, Q[k]? = some q := ⟨Q[k]'(by omega), List.getElem?_eq_getElem (by omega)⟩
    obtain ⟨g0, g5, g16, g27, g36⟩ := hst k e q he hq
    obtain ⟨f1, f2⟩ := flat_at hlen he
    have f3 : 41 ≤ (L.flatten.drop (k * 41)).length := by rw [List.length_drop]; omega
    have k5 : (e.map AV.p)[5]? = some (.p (.v (.int .i64 q.1))) := by simp [g5]
    have k16 : (e.map AV.p)[16]? = some (.p (.v (.int .i64 q.2.1))) := by simp [g16]
    have k27 : (e.map AV.p)[27]? = some (.p (.v (.int .i64 q.2.2.1))) := by simp [g27]
    have k36 : (e.map AV.p)[36]? = some (.p (.v (.int .i64 q.2.2.2))) := by simp [g36]
    (repeat (first | refine awp_seq ?_ | refine awp_block ?_ | refine awp_skip ?_ | refine awp_ret ?_ | refine awp_exit ?_ | refine thn_n ?_ | refine thn_r ?_ | refine thn_x ?_ | refine inb_n ?_ | refine inb_r ?_ | refine inb_x ?_ | refine inb_y rfl ?_))
    refine awp_text (by kernel_rfl) ?_
    (first | refine r_pure (a_move (r := .p _)) rfl rfl ?_ | refine r_pure (a_move (r := .row _)) rfl rfl ?_ | refine r_pure (a_move (r := .ref _ _)) rfl rfl ?_ | refine r_pure (a_move (r := .agg _)) rfl rfl ?_ | refine r_pure (a_move (r := .psl _ _ _ _)) rfl rfl ?_ | refine r_pure (a_move (r := .ptr _)) rfl rfl ?_ | refine r_pure (a_move (r := .tup _)) rfl rfl ?_ | refine r_pure (a_move (r := .fn _ _)) rfl rfl ?_ | refine r_pure (a_move (r := .mb _ _)) rfl rfl ?_ | refine r_pure (a_move (r := .any)) rfl rfl ?_)
    (first | refine r_pure (a_indexAddrS Try.underlying37 sz80 (by omega) (by omega) (by rw [Int.toNat_natCast])) rfl rfl ?_ | refine r_run (a_indexAddrR Try.underlying37 sz80 (by omega) (by omega) (by first | (simp only [Int.toNat_natCast, Nat.mul_one, Nat.zero_add]; rfl) | rfl)) rfl rfl ⟨rfl, trivial⟩ ?_ | refine r_pure (a_indexAddrV Try.underlying37 sz80 (by omega) (by omega) (by first | (simp only [Int.toNat_natCast, Nat.mul_one, Nat.zero_add]; rfl) | rfl)) rfl rfl ?_)
    (first | refine r_run (a_loadN Try.underlying80 rfl sz80 (by first | exact Nat.le_of_ble_eq_true rfl | (simp only [AV.cells, List.length_map]; omega)) (by first | exact take_all (by first | exact Nat.eq_of_beq_eq_true rfl | (simp only [AV.cells, List.length_map]; first | assumption | omega)) | (simp only [List.take_succ_cons, List.take_zero, List.drop_succ_cons, List.drop_zero]; rfl) | rfl)) rfl rfl ⟨rfl, trivial⟩ ?_ | refine r_run (a_loadNr Try.underlying80 rfl sz80 (by omega) (f1)) rfl rfl ⟨rfl, trivial⟩ ?_ | refine r_pure (a_loadNp Try.underlying80 rfl sz80 f3 (f1)) rfl rfl ?_)
    (refine r_run (a_alloc 8 zr80 rfl) rfl rfl ⟨rfl, trivial⟩ ?_)
    (first | refine r_pure (a_assign (r := .p _)) rfl rfl ?_ | refine r_pure (a_assign (r := .row _)) rfl rfl ?_ | refine r_pure (a_assign (r := .ref _ _)) rfl rfl ?_ | refine r_pure (a_assign (r := .agg _)) rfl rfl ?_ | refine r_pure (a_assign (r := .psl _ _ _ _)) rfl rfl ?_ | refine r_pure (a_assign (r := .ptr _)) rfl rfl ?_ | refine r_pure (a_assign (r := .tup _)) rfl rfl ?_ | refine r_pure (a_assign (r := .fn _ _)) rfl rfl ?_ | refine r_pure (a_assign (r := .mb _ _)) rfl rfl ?_ | refine r_pure (a_assign (r := .any)) rfl rfl ?_)
    (first | refine r_run (a_storeAll (Y := .agg _) sz80 rfl (by first | exact Nat.eq_of_beq_eq_true rfl | (simp only [AV.cells, List.length_map]; first | assumption | omega)) (Nat.eq_of_beq_eq_true rfl)) rfl rfl ⟨rfl, trivial⟩ ?_ | refine r_run (a_store (Y := .agg _) sz80 rfl (by first | exact Nat.eq_of_beq_eq_true rfl | (simp only [AV.cells, List.length_map]; first | assumption | omega)) (by first | exact Nat.le_of_ble_eq_true rfl | (simp only [AV.cells, List.length_map]; omega)) (by first | (simp only [setR, AV.cells, List.take_succ_cons, List.take_zero, List.drop_succ_cons, List.drop_zero, List.drop_nil, List.take_nil, List.nil_append, List.cons_append, List.append_nil, List.length_cons, List.length_nil, Nat.reduceAdd, Nat.zero_add, Nat.add_zero]; rfl) | rfl)) rfl rfl ⟨rfl, trivial⟩ ?_ | refine r_run (a_storeR (Y := .agg _) sz80 rfl rfl (by first | rfl | omega) (by omega) rfl) rfl rfl ⟨rfl, trivial⟩ ?_)
    refine arun_nil ?_
    (repeat (first | refine awp_seq ?_ | refine awp_block ?_ | refine awp_skip ?_ | refine awp_ret ?_ | refine awp_exit ?_ | refine thn_n ?_ | refine thn_r ?_ | refine thn_x ?_ | refine inb_n ?_ | refine inb_r ?_ | refine inb_x ?_ | refine inb_y rfl ?_))
    refine awp_text (by kernel_rfl) ?_
    (first | refine r_run (a_loadN Try.underlying80 rfl sz80 (by first | exact Nat.le_of_ble_eq_true rfl | (simp only [AV.cells, List.length_map]; omega)) (by first | exact take_all (by first | exact Nat.eq_of_beq_eq_true rfl | (simp only [AV.cells, List.length_map]; first | assumption | omega)) | (simp only [List.take_succ_cons, List.take_zero, List.drop_succ_cons, List.drop_zero]; rfl) | rfl)) rfl rfl ⟨rfl, trivial⟩ ?_ | refine r_run (a_loadNr Try.underlying80 rfl sz80 (by omega) (rfl)) rfl rfl ⟨rfl, trivial⟩ ?_ | refine r_pure (a_loadNp Try.underlying80 rfl sz80 (by omega) (rfl)) rfl rfl ?_)
    (refine r_callS (fun n => 19 + 1000 * n) (given_s _ _ _ _ _ k5 k16 k27 k36) rfl rfl Try.func55 rfl rfl (by first | rfl | simp [AV.okInL, AV.okIn, okInL_map]) rfl rfl rfl (by first | exact trivial | exact ⟨rfl, trivial⟩ | exact ⟨rfl, rfl, trivial⟩) rfl rfl rfl ?_)
    (first | refine r_pure (a_lenS Try.underlying84) rfl rfl ?_ | refine r_pure (a_lenNil Try.underlying84) rfl rfl ?_ | refine r_pure (a_lenV Try.underlying84) rfl rfl ?_ | refine r_run (a_lenR Try.underlying84) rfl rfl ⟨rfl, trivial⟩ ?_)
    (first | refine r_pure (a_move (r := .p _)) rfl rfl ?_ | refine r_pure (a_move (r := .row _)) rfl rfl ?_ | refine r_pure (a_move (r := .ref _ _)) rfl rfl ?_ | refine r_pure (a_move (r := .agg _)) rfl rfl ?_ | refine r_pure (a_move (r := .psl _ _ _ _)) rfl rfl ?_ | refine r_pure (a_move (r := .ptr _)) rfl rfl ?_ | refine r_pure (a_move (r := .tup _)) rfl rfl ?_ | refine r_pure (a_move (r := .fn _ _)) rfl rfl ?_ | refine r_pure (a_move (r := .mb _ _)) rfl rfl ?_ | refine r_pure (a_move (r := .any)) rfl rfl ?_)
    refine arun_nil ?_
    (repeat (first | refine awp_seq ?_ | refine awp_block ?_ | refine awp_skip ?_ | refine awp_ret ?_ | refine awp_exit ?_ | refine thn_n ?_ | refine thn_r ?_ | refine thn_x ?_ | refine inb_n ?_ | refine inb_r ?_ | refine inb_x ?_ | refine inb_y rfl ?_))
    refine awp_loopR (fun m2 st => ∃ j : Nat, m2 + j = 4 ∧ (∀ i, (hi : i < j) → (hi2 : i < q.l4.length) → ¬ (q.l4[i] = x ∧ 0 < x)) ∧ st = St.of [(1, .p (.v (.int .i64 x))), (7, .p (.v (.int .i64 k))), (11, .p (.sl N 41 L.flatten)), (12, .p (.v (.int .i64 N))), (13, .p (.v (.int .i64 k))), (19, .row 19), (20, .p (.v (.int .i64 4))), (21, .p (.v (.int .i64 j)))] [(19, .row 3 1 4 (is q.l4))]) 4 ?_ ?_
    · refine ⟨_, re_of id _ _ ?_ ?_ rfl, 0, by omega, fun i hi => by omega, rfl⟩
      · (repeat (first | exact trivial | (refine ⟨⟨(by first | rfl | (simp; done) | (simp; omega)), rfl⟩, ?_⟩)))
      · exact ⟨⟨rfl, rfl⟩, trivial⟩
    rintro m2 st ⟨j, hj, hc, rfl⟩
    (repeat (first | refine awp_seq ?_ | refine awp_block ?_ | refine awp_skip ?_ | refine awp_ret ?_ | refine awp_exit ?_ | refine thn_n ?_ | refine thn_r ?_ | refine thn_x ?_ | refine inb_n ?_ | refine inb_r ?_ | refine inb_x ?_ | refine inb_y rfl ?_))
    refine awp_text (by kernel_rfl) ?_
    (refine r_pure a_lss rfl rfl ?_)
    refine arun_nil ?_
    (repeat (first | refine awp_seq ?_ | refine awp_block ?_ | refine awp_skip ?_ | refine awp_ret ?_ | refine awp_exit ?_ | refine thn_n ?_ | refine thn_r ?_ | refine thn_x ?_ | refine inb_n ?_ | refine inb_r ?_ | refine inb_x ?_ | refine inb_y rfl ?_))
    refine awp_cond _ rfl (fun h => ?_) (fun h => ?_)
    · have hj4 : j < 4 := by have : (j : Int) < 4 := by simpa using h
                             omega
      clear h
      have hx4 : j < q.l4.length := hj4
      have hat := is_at hx4
      (repeat (first | refine awp_seq ?_ | refine awp_block ?_ | refine awp_skip ?_ | refine awp_ret ?_ | refine awp_exit ?_ | refine thn_n ?_ | refine thn_r ?_ | refine thn_x ?_ | refine inb_n ?_ | refine inb_r ?_ | refine inb_x ?_ | refine inb_y rfl ?_))
      refine awp_text (by kernel_rfl) ?_
      (first | refine r_pure (a_move (r := .p _)) rfl rfl ?_ | refine r_pure (a_move (r := .row _)) rfl rfl ?_ | refine r_pure (a_move (r := .ref _ _)) rfl rfl ?_ | refine r_pure (a_move (r := .agg _)) rfl rfl ?_ | refine r_pure (a_move (r := .psl _ _ _ _)) rfl rfl ?_ | refine r_pure (a_move (r := .ptr _)) rfl rfl ?_ | refine r_pure (a_move (r := .tup _)) rfl rfl ?_ | refine r_pure (a_move (r := .fn _ _)) rfl rfl ?_ | refine r_pure (a_move (r := .mb _ _)) rfl rfl ?_ | refine r_pure (a_move (r := .any)) rfl rfl ?_)
      (first | refine r_pure (a_indexAddrS Try.underlying84 sz3 (by omega) (by omega) rfl) rfl rfl ?_ | refine r_run (a_indexAddrR Try.underlying84 sz3 (by omega) (by omega) (by first | (simp only [Int.toNat_natCast, Nat.mul_one, Nat.zero_add]; rfl) | rfl)) rfl rfl ⟨rfl, trivial⟩ ?_ | refine r_pure (a_indexAddrV Try.underlying84 sz3 (by omega) (by omega) (by first | (simp only [Int.toNat_natCast, Nat.mul_one, Nat.zero_add]; rfl) | rfl)) rfl rfl ?_)
      (first | refine r_run (a_load1 Try.underlying3 rfl (by first | rfl | assumption)) rfl rfl ⟨rfl, trivial⟩ ?_ | refine r_run (a_load1r Try.underlying3 rfl (by first | rfl | assumption | ((try simp only [List.getElem?_drop, List.getElem?_take, Int.toNat_natCast, Nat.mul_one, Nat.add_zero, Nat.zero_add]); first | assumption | rfl))) rfl rfl ⟨rfl, trivial⟩ ?_ | refine r_pure (a_load1p Try.underlying3 rfl (by first | rfl | assumption | ((try simp only [List.getElem?_drop, List.getElem?_take, Int.toNat_natCast, Nat.mul_one, Nat.add_zero, Nat.zero_add]); first | assumption | rfl))) rfl rfl ?_)
      (first | refine r_pure (a_assign (r := .p _)) rfl rfl ?_ | refine r_pure (a_assign (r := .row _)) rfl rfl ?_ | refine r_pure (a_assign (r := .ref _ _)) rfl rfl ?_ | refine r_pure (a_assign (r := .agg _)) rfl rfl ?_ | refine r_pure (a_assign (r := .psl _ _ _ _)) rfl rfl ?_ | refine r_pure (a_assign (r := .ptr _)) rfl rfl ?_ | refine r_pure (a_assign (r := .tup _)) rfl rfl ?_ | refine r_pure (a_assign (r := .fn _ _)) rfl rfl ?_ | refine r_pure (a_assign (r := .mb _ _)) rfl rfl ?_ | refine r_pure (a_assign (r := .any)) rfl rfl ?_)
      (first | refine r_pure (a_assign (r := .p _)) rfl rfl ?_ | refine r_pure (a_assign (r := .row _)) rfl rfl ?_ | refine r_pure (a_assign (r := .ref _ _)) rfl rfl ?_ | refine r_pure (a_assign (r := .agg _)) rfl rfl ?_ | refine r_pure (a_assign (r := .psl _ _ _ _)) rfl rfl ?_ | refine r_pure (a_assign (r := .ptr _)) rfl rfl ?_ | refine r_pure (a_assign (r := .tup _)) rfl rfl ?_ | refine r_pure (a_assign (r := .fn _ _)) rfl rfl ?_ | refine r_pure (a_assign (r := .mb _ _)) rfl rfl ?_ | refine r_pure (a_assign (r := .any)) rfl rfl ?_)
      refine arun_nil ?_
      (repeat (first | refine awp_seq ?_ | refine awp_block ?_ | refine awp_skip ?_ | refine awp_ret ?_ | refine awp_exit ?_ | refine thn_n ?_ | refine thn_r ?_ | refine thn_x ?_ | refine inb_n ?_ | refine inb_r ?_ | refine inb_x ?_ | refine inb_y rfl ?_))
      refine awp_text (by kernel_rfl) ?_
      (first | refine r_pure (a_move (r := .p _)) rfl rfl ?_ | refine r_pure (a_move (r := .row _)) rfl rfl ?_ | refine r_pure (a_move (r := .ref _ _)) rfl rfl ?_ | refine r_pure (a_move (r := .agg _)) rfl rfl ?_ | refine r_pure (a_move (r := .psl _ _ _ _)) rfl rfl ?_ | refine r_pure (a_move (r := .ptr _)) rfl rfl ?_ | refine r_pure (a_move (r := .tup _)) rfl rfl ?_ | refine r_pure (a_move (r := .fn _ _)) rfl rfl ?_ | refine r_pure (a_move (r := .mb _ _)) rfl rfl ?_ | refine r_pure (a_move (r := .any)) rfl rfl ?_)
      (first | refine r_pure (a_move (r := .p _)) rfl rfl ?_ | refine r_pure (a_move (r := .row _)) rfl rfl ?_ | refine r_pure (a_move (r := .ref _ _)) rfl rfl ?_ | refine r_pure (a_move (r := .agg _)) rfl rfl ?_ | refine r_pure (a_move (r := .psl _ _ _ _)) rfl rfl ?_ | refine r_pure (a_move (r := .ptr _)) rfl rfl ?_ | refine r_pure (a_move (r := .tup _)) rfl rfl ?_ | refine r_pure (a_move (r := .fn _ _)) rfl rfl ?_ | refine r_pure (a_move (r := .mb _ _)) rfl rfl ?_ | refine r_pure (a_move (r := .any)) rfl rfl ?_)
      (refine r_pure a_eql rfl rfl ?_)
      (first | refine r_pure (a_move (r := .p _)) rfl rfl ?_ | refine r_pure (a_move (r := .row _)) rfl rfl ?_ | refine r_pure (a_move (r := .ref _ _)) rfl rfl ?_ | refine r_pure (a_move (r := .agg _)) rfl rfl ?_ | refine r_pure (a_move (r := .psl _ _ _ _)) rfl rfl ?_ | refine r_pure (a_move (r := .ptr _)) rfl rfl ?_ | refine r_pure (a_move (r := .tup _)) rfl rfl ?_ | refine r_pure (a_move (r := .fn _ _)) rfl rfl ?_ | refine r_pure (a_move (r := .mb _ _)) rfl rfl ?_ | refine r_pure (a_move (r := .any)) rfl rfl ?_)
      (first | refine r_mb2 _ rfl rfl (by (repeat (first | exact stripOK_nil | refine stripOK_mb id ?_ | refine stripOK_p ?_ | refine stripOK_ref ?_ | refine stripOK_row ?_ | refine stripOK_ptr ?_ | refine stripOK_agg ?_ | refine stripOK_mb (by simp_all) ?_))) (fun hb => (a_move (r := .p _))) (fun _ => trivial) ?_ | refine r_mb2 _ rfl rfl (by (repeat (first | exact stripOK_nil | refine stripOK_mb id ?_ | refine stripOK_p ?_ | refine stripOK_ref ?_ | refine stripOK_row ?_ | refine stripOK_ptr ?_ | refine stripOK_agg ?_ | refine stripOK_mb (by simp_all) ?_))) (fun hb => (a_move (r := .row _))) (fun _ => trivial) ?_ | refine r_mb2 _ rfl rfl (by (repeat (first | exact stripOK_nil | refine stripOK_mb id ?_ | refine stripOK_p ?_ | refine stripOK_ref ?_ | refine stripOK_row ?_ | refine stripOK_ptr ?_ | refine stripOK_agg ?_ | refine stripOK_mb (by simp_all) ?_))) (fun hb => (a_move (r := .ref _ _))) (fun _ => trivial) ?_ | refine r_mb2 _ rfl rfl (by (repeat (first | exact stripOK_nil | refine stripOK_mb id ?_ | refine stripOK_p ?_ | refine stripOK_ref ?_ | refine stripOK_row ?_ | refine stripOK_ptr ?_ | refine stripOK_agg ?_ | refine stripOK_mb (by simp_all) ?_))) (fun hb => (a_move (r := .agg _))) (fun _ => trivial) ?_ | refine r_mb2 _ rfl rfl (by (repeat (first | exact stripOK_nil | refine stripOK_mb id ?_ | refine stripOK_p ?_ | refine stripOK_ref ?_ | refine stripOK_row ?_ | refine stripOK_ptr ?_ | refine stripOK_agg ?_ | refine stripOK_mb (by simp_all) ?_))) (fun hb => (a_move (r := .psl _ _ _ _))) (fun _ => trivial) ?_ | refine r_mb2 _ rfl rfl (by (repeat (first | exact stripOK_nil | refine stripOK_mb id ?_ | refine stripOK_p ?_ | refine stripOK_ref ?_ | refine stripOK_row ?_ | refine stripOK_ptr ?_ | refine stripOK_agg ?_ | refine stripOK_mb (by simp_all) ?_))) (fun hb => (a_move (r := .ptr _))) (fun _ => trivial) ?_ | refine r_mb2 _ rfl rfl (by (repeat (first | exact stripOK_nil | refine stripOK_mb id ?_ | refine stripOK_p ?_ | refine stripOK_ref ?_ | refine stripOK_row ?_ | refine stripOK_ptr ?_ | refine stripOK_agg ?_ | refine stripOK_mb (by simp_all) ?_))) (fun hb => (a_move (r := .tup _))) (fun _ => trivial) ?_ | refine r_mb2 _ rfl rfl (by (repeat (first | exact stripOK_nil | refine stripOK_mb id ?_ | refine stripOK_p ?_ | refine stripOK_ref ?_ | refine stripOK_row ?_ | refine stripOK_ptr ?_ | refine stripOK_agg ?_ | refine stripOK_mb (by simp_all) ?_))) (fun hb => (a_move (r := .fn _ _))) (fun _ => trivial) ?_ | refine r_mb2 _ rfl rfl (by (repeat (first | exact stripOK_nil | refine stripOK_mb id ?_ | refine stripOK_p ?_ | refine stripOK_ref ?_ | refine stripOK_row ?_ | refine stripOK_ptr ?_ | refine stripOK_agg ?_ | refine stripOK_mb (by simp_all) ?_))) (fun hb => (a_move (r := .mb _ _))) (fun _ => trivial) ?_ | refine r_mb2 _ rfl rfl (by (repeat (first | exact stripOK_nil | refine stripOK_mb id ?_ | refine stripOK_p ?_ | refine stripOK_ref ?_ | refine stripOK_row ?_ | refine stripOK_ptr ?_ | refine stripOK_agg ?_ | refine stripOK_mb (by simp_all) ?_))) (fun hb => (a_move (r := .any))) (fun _ => trivial) ?_)
      (refine r_mb2 _ rfl rfl (by (repeat (first | exact stripOK_nil | refine stripOK_mb id ?_ | refine stripOK_p ?_ | refine stripOK_ref ?_ | refine stripOK_row ?_ | refine stripOK_ptr ?_ | refine stripOK_agg ?_ | refine stripOK_mb (by simp_all) ?_))) (fun hb => a_gtr) (fun _ => trivial) ?_)
      (first | refine r_pure (a_and (by first | exact id | simp)) rfl rfl ?_ | refine r_pure (a_or (by first | exact id | simp)) rfl rfl ?_ | refine r_pure (a_pick rfl rfl) rfl rfl ?_)
      refine arun_nil ?_
      (repeat (first | refine awp_seq ?_ | refine awp_block ?_ | refine awp_skip ?_ | refine awp_ret ?_ | refine awp_exit ?_ | refine thn_n ?_ | refine thn_r ?_ | refine thn_x ?_ | refine inb_n ?_ | refine inb_r ?_ | refine inb_x ?_ | refine inb_y rfl ?_))
      refine awp_cond _ rfl (fun h => ?_) (fun h => ?_)
      · have h2 : q.l4[j] = x ∧ 0 < x := by simpa using h
        (repeat (first | refine awp_seq ?_ | refine awp_block ?_ | refine awp_skip ?_ | refine awp_ret ?_ | refine awp_exit ?_ | refine thn_n ?_ | refine thn_r ?_ | refine thn_x ?_ | refine inb_n ?_ | refine inb_r ?_ | refine inb_x ?_ | refine inb_y rfl ?_))
        refine awp_text (by kernel_rfl) ?_
        (first | refine r_pure (a_move (r := .p _)) rfl rfl ?_ | refine r_pure (a_move (r := .row _)) rfl rfl ?_ | refine r_pure (a_move (r := .ref _ _)) rfl rfl ?_ | refine r_pure (a_move (r := .agg _)) rfl rfl ?_ | refine r_pure (a_move (r := .psl _ _ _ _)) rfl rfl ?_ | refine r_pure (a_move (r := .ptr _)) rfl rfl ?_ | refine r_pure (a_move (r := .tup _)) rfl rfl ?_ | refine r_pure (a_move (r := .fn _ _)) rfl rfl ?_ | refine r_pure (a_move (r := .mb _ _)) rfl rfl ?_ | refine r_pure (a_move (r := .any)) rfl rfl ?_)
        (first | refine r_pure (a_move (r := .p _)) rfl rfl ?_ | refine r_pure (a_move (r := .row _)) rfl rfl ?_ | refine r_pure (a_move (r := .ref _ _)) rfl rfl ?_ | refine r_pure (a_move (r := .agg _)) rfl rfl ?_ | refine r_pure (a_move (r := .psl _ _ _ _)) rfl rfl ?_ | refine r_pure (a_move (r := .ptr _)) rfl rfl ?_ | refine r_pure (a_move (r := .tup _)) rfl rfl ?_ | refine r_pure (a_move (r := .fn _ _)) rfl rfl ?_ | refine r_pure (a_move (r := .mb _ _)) rfl rfl ?_ | refine r_pure (a_move (r := .any)) rfl rfl ?_)
        (refine r_pure (a_add (by first | exact IntWalk.i64_in _ (by omega) | rfl)) rfl rfl ?_)
        (first | refine r_pure (a_assign (r := .p _)) rfl rfl ?_ | refine r_pure (a_assign (r := .row _)) rfl rfl ?_ | refine r_pure (a_assign (r := .ref _ _)) rfl rfl ?_ | refine r_pure (a_assign (r := .agg _)) rfl rfl ?_ | refine r_pure (a_assign (r := .psl _ _ _ _)) rfl rfl ?_ | refine r_pure (a_assign (r := .ptr _)) rfl rfl ?_ | refine r_pure (a_assign (r := .tup _)) rfl rfl ?_ | refine r_pure (a_assign (r := .fn _ _)) rfl rfl ?_ | refine r_pure (a_assign (r := .mb _ _)) rfl rfl ?_ | refine r_pure (a_assign (r := .any)) rfl rfl ?_)
        (first | refine r_pure (a_assign (r := .p _)) rfl rfl ?_ | refine r_pure (a_assign (r := .row _)) rfl rfl ?_ | refine r_pure (a_assign (r := .ref _ _)) rfl rfl ?_ | refine r_pure (a_assign (r := .agg _)) rfl rfl ?_ | refine r_pure (a_assign (r := .psl _ _ _ _)) rfl rfl ?_ | refine r_pure (a_assign (r := .ptr _)) rfl rfl ?_ | refine r_pure (a_assign (r := .tup _)) rfl rfl ?_ | refine r_pure (a_assign (r := .fn _ _)) rfl rfl ?_ | refine r_pure (a_assign (r := .mb _ _)) rfl rfl ?_ | refine r_pure (a_assign (r := .any)) rfl rfl ?_)
        (first | refine r_pure (a_assign (r := .p _)) rfl rfl ?_ | refine r_pure (a_assign (r := .row _)) rfl rfl ?_ | refine r_pure (a_assign (r := .ref _ _)) rfl rfl ?_ | refine r_pure (a_assign (r := .agg _)) rfl rfl ?_ | refine r_pure (a_assign (r := .psl _ _ _ _)) rfl rfl ?_ | refine r_pure (a_assign (r := .ptr _)) rfl rfl ?_ | refine r_pure (a_assign (r := .tup _)) rfl rfl ?_ | refine r_pure (a_assign (r := .fn _ _)) rfl rfl ?_ | refine r_pure (a_assign (r := .mb _ _)) rfl rfl ?_ | refine r_pure (a_assign (r := .any)) rfl rfl ?_)
        refine arun_nil ?_
        (repeat (first | refine awp_seq ?_ | refine awp_block ?_ | refine awp_skip ?_ | refine awp_ret ?_ | refine awp_exit ?_ | refine thn_n ?_ | refine thn_r ?_ | refine thn_x ?_ | refine inb_n ?_ | refine inb_r ?_ | refine inb_x ?_ | refine inb_y rfl ?_))
        refine ⟨(by first | exact .inl rfl | exact .inr rfl), _, (fun o => o), (.tmp _ _ _ _ rfl (.tmp _ _ _ _ rfl (.tmp _ _ _ _ rfl .nil))), ?_, rfl, ?_, rfl⟩
        · have hi : idxI x q.l5 = j + 1 := idx_l5 h2.2 (idxI_at hx4 h2.1.symm fun i hi e => hc i hi (by omega) ⟨e.symm, h2.2⟩)
          have hf : fnd x Q 0 = ((k : Int), (j : Int) + 1, 0) := by
            rw [fnd_skip (n := x) (Q := Q) (i := 0) (k := k) (by omega) hb, List.drop_eq_getElem_cons (show k < Q.length by omega)]
            have e2 : Q[k]'(by omega) = q := (List.getElem?_eq_some_iff.1 hq).2
            rw [e2, fnd, if_pos ⟨h2.2, by omega⟩, Nat.zero_add, hi]
          rw [hf]
          exact rfl
        · exact trivial
      · have h2 : ¬ (q.l4[j] = x ∧ 0 < x) := by simpa using h
        (repeat (first | refine awp_seq ?_ | refine awp_block ?_ | refine awp_skip ?_ | refine awp_ret ?_ | refine awp_exit ?_ | refine thn_n ?_ | refine thn_r ?_ | refine thn_x ?_ | refine inb_n ?_ | refine inb_r ?_ | refine inb_x ?_ | refine inb_y rfl ?_))
        refine awp_text (by kernel_rfl) ?_
        (refine r_pure (a_add (by first | exact IntWalk.i64_in _ (by omega) | rfl)) rfl rfl ?_)
        (first | refine r_pure (a_move (r := .p _)) rfl rfl ?_ | refine r_pure (a_move (r := .row _)) rfl rfl ?_ | refine r_pure (a_move (r := .ref _ _)) rfl rfl ?_ | refine r_pure (a_move (r := .agg _)) rfl rfl ?_ | refine r_pure (a_move (r := .psl _ _ _ _)) rfl rfl ?_ | refine r_pure (a_move (r := .ptr _)) rfl rfl ?_ | refine r_pure (a_move (r := .tup _)) rfl rfl ?_ | refine r_pure (a_move (r := .fn _ _)) rfl rfl ?_ | refine r_pure (a_move (r := .mb _ _)) rfl rfl ?_ | refine r_pure (a_move (r := .any)) rfl rfl ?_)
        refine arun_nil ?_
        (repeat (first | refine awp_seq ?_ | refine awp_block ?_ | refine awp_skip ?_ | refine awp_ret ?_ | refine awp_exit ?_ | refine thn_n ?_ | refine thn_r ?_ | refine thn_x ?_ | refine inb_n ?_ | refine inb_r ?_ | refine inb_x ?_ | refine inb_y rfl ?_))
        refine ⟨m2 - 1, by omega, _, re_of id _ _ ?_ ?_ rfl, j + 1, by omega, fun i hi hi2 => ?_, rfl⟩
        · (repeat (first | exact trivial | (refine ⟨⟨(by first | rfl | (simp; done) | (simp; omega)), rfl⟩, ?_⟩)))
        · exact ⟨⟨rfl, rfl⟩, trivial⟩
        · by_cases ej : i = j
          · subst ej; exact h2
          · exact hc i (by omega) hi2
    · have hj4 : ¬ j < 4 := by have : ¬ (j : Int) < 4 := by simpa using h
                               omega
      obtain rfl : j = 4 := by omega
      have h2 : ¬ (0 < x ∧ 0 < idxI x q.l5) := fun hh => by
        have := idx_l5n (q := q) hh.1 (idxI_none fun i hi e => hc i (by exact hi) hi ⟨e.symm, hh.1⟩)
        omega
      (repeat (first | refine awp_seq ?_ | refine awp_block ?_ | refine awp_skip ?_ | refine awp_ret ?_ | refine awp_exit ?_ | refine thn_n ?_ | refine thn_r ?_ | refine thn_x ?_ | refine inb_n ?_ | refine inb_r ?_ | refine inb_x ?_ | refine inb_y rfl ?_))
      refine awp_text (by kernel_rfl) ?_
      (refine r_pure (a_add (by first | exact IntWalk.i64_in _ (by omega) | rfl)) rfl rfl ?_)
      (first | refine r_pure (a_move (r := .p _)) rfl rfl ?_ | refine r_pure (a_move (r := .row _)) rfl rfl ?_ | refine r_pure (a_move (r := .ref _ _)) rfl rfl ?_ | refine r_pure (a_move (r := .agg _)) rfl rfl ?_ | refine r_pure (a_move (r := .psl _ _ _ _)) rfl rfl ?_ | refine r_pure (a_move (r := .ptr _)) rfl rfl ?_ | refine r_pure (a_move (r := .tup _)) rfl rfl ?_ | refine r_pure (a_move (r := .fn _ _)) rfl rfl ?_ | refine r_pure (a_move (r := .mb _ _)) rfl rfl ?_ | refine r_pure (a_move (r := .any)) rfl rfl ?_)
      refine arun_nil ?_
      (repeat (first | refine awp_seq ?_ | refine awp_block ?_ | refine awp_skip ?_ | refine awp_ret ?_ | refine awp_exit ?_ | refine thn_n ?_ | refine thn_r ?_ | refine thn_x ?_ | refine inb_n ?_ | refine inb_r ?_ | refine inb_x ?_ | refine inb_y rfl ?_))
      refine ⟨m - 1, by omega, _, re_of id _ _ ?_ ?_ rfl, k + 1, by omega, fun i q' hi hi2 => ?_, rfl⟩
      · (repeat (first | exact trivial | (refine ⟨⟨(by first | rfl | (simp; done) | (simp; omega)), rfl⟩, ?_⟩)))
      · exact trivial
      · by_cases ej : i = k
        · subst ej; rw [hq] at hi2; cases hi2; exact h2
        · exact hb i q' (by omega) hi2
  · have hge : ¬ k < N := by simpa using h
    have hf : fnd x Q 0 = (0, 0, 5) := by
      rw [fnd_skip (n := x) (Q := Q) (i := 0) (k := k) (by omega) hb, List.drop_of_length_le (by omega)]; rfl
    (repeat (first | refine awp_seq ?_ | refine awp_block ?_ | refine awp_skip ?_ | refine awp_ret ?_ | refine awp_exit ?_ | refine thn_n ?_ | refine thn_r ?_ | refine thn_x ?_ | refine inb_n ?_ | refine inb_r ?_ | refine inb_x ?_ | refine inb_y rfl ?_))
    refine awp_text (by kernel_rfl) ?_
    (first | refine r_pure (a_assign (r := .p _)) rfl rfl ?_ | refine r_pure (a_assign (r := .row _)) rfl rfl ?_ | refine r_pure (a_assign (r := .ref _ _)) rfl rfl ?_ | refine r_pure (a_assign (r := .agg _)) rfl rfl ?_ | refine r_pure (a_assign (r := .psl _ _ _ _)) rfl rfl ?_ | refine r_pure (a_assign (r := .ptr _)) rfl rfl ?_ | refine r_pure (a_assign (r := .tup _)) rfl rfl ?_ | refine r_pure (a_assign (r := .fn _ _)) rfl rfl ?_ | refine r_pure (a_assign (r := .mb _ _)) rfl rfl ?_ | refine r_pure (a_assign (r := .any)) rfl rfl ?_)
    (first | refine r_pure (a_assign (r := .p _)) rfl rfl ?_ | refine r_pure (a_assign (r := .row _)) rfl rfl ?_ | refine r_pure (a_assign (r := .ref _ _)) rfl rfl ?_ | refine r_pure (a_assign (r := .agg _)) rfl rfl ?_ | refine r_pure (a_assign (r := .psl _ _ _ _)) rfl rfl ?_ | refine r_pure (a_assign (r := .ptr _)) rfl rfl ?_ | refine r_pure (a_assign (r := .tup _)) rfl rfl ?_ | refine r_pure (a_assign (r := .fn _ _)) rfl rfl ?_ | refine r_pure (a_assign (r := .mb _ _)) rfl rfl ?_ | refine r_pure (a_assign (r := .any)) rfl rfl ?_)
    (first | refine r_pure (a_assign (r := .p _)) rfl rfl ?_ | refine r_pure (a_assign (r := .row _)) rfl rfl ?_ | refine r_pure (a_assign (r := .ref _ _)) rfl rfl ?_ | refine r_pure (a_assign (r := .agg _)) rfl rfl ?_ | refine r_pure (a_assign (r := .psl _ _ _ _)) rfl rfl ?_ | refine r_pure (a_assign (r := .ptr _)) rfl rfl ?_ | refine r_pure (a_assign (r := .tup _)) rfl rfl ?_ | refine r_pure (a_assign (r := .fn _ _)) rfl rfl ?_ | refine r_pure (a_assign (r := .mb _ _)) rfl rfl ?_ | refine r_pure (a_assign (r := .any)) rfl rfl ?_)
    refine arun_nil ?_
    (repeat (first | refine awp_seq ?_ | refine awp_block ?_ | refine awp_skip ?_ | refine awp_ret ?_ | refine awp_exit ?_ | refine thn_n ?_ | refine thn_r ?_ | refine thn_x ?_ | refine inb_n ?_ | refine inb_r ?_ | refine inb_x ?_ | refine inb_y rfl ?_))
    refine ⟨(by first | exact .inl rfl | exact .inr rfl), _, (fun o => o), (.tmp _ _ _ _ rfl (.tmp _ _ _ _ rfl (.tmp _ _ _ _ rfl .nil))), ?_, rfl, ?_, rfl⟩
    · rw [hf]; first | done | (refine (?_ : _ = _); kernel_rfl)
    · exact trivial

theorem mx_l5 {n : Int} (hn : 0 ≤ n) (q : Four) : mx n q.l5 = mx n q.l4 := by
  show mx (max n 0) q.l4 = mx n q.l4
  rw [show max n 0 = n by omega]

set_option maxRecDepth 100000 in
set_option maxHeartbeats 1000000 in
theorem statesMost_s (L : List (List PV)) (Q : List Four) (N : Nat) (hL : L.length = N) (hQ : Q.length = N) (hm : N ≤ 9223372036854775807) (hst : ∀ (k : Nat) e q, L[k]? = some e → Q[k]? = some q → StP e q) :
    Fn Try.prog 25 [.p (.sl N 41 L.flatten)] (.p (.v (.int .i64 (most Q)))) [] := by
  have hlen : ∀ e ∈ L, e.length = 41 := by
    intro e he
    obtain ⟨k, hk, rfl⟩ := List.mem_iff_getElem.1 he
    exact (hst k _ (Q[k]'(by omega)) (List.getElem?_eq_getElem hk) (List.getElem?_eq_getElem (by omega))).len
  refine fn_intro Try.func25 rfl (Nat.le_of_ble_eq_true rfl) fun w0 A => ?_
  (repeat (first | refine awp_seq ?_ | refine awp_block ?_ | refine awp_skip ?_ | refine awp_ret ?_ | refine awp_exit ?_ | refine thn_n ?_ | refine thn_r ?_ | refine thn_x ?_ | refine inb_n ?_ | refine inb_r ?_ | refine inb_x ?_ | refine inb_y rfl ?_))
  refine awp_text (by kernel_rfl) ?_
  (first | refine r_pure (a_assign (r := .p _)) rfl rfl ?_ | refine r_pure (a_assign (r := .row _)) rfl rfl ?_ | refine r_pure (a_assign (r := .ref _ _)) rfl rfl ?_ | refine r_pure (a_assign (r := .agg _)) rfl rfl ?_ | refine r_pure (a_assign (r := .psl _ _ _ _)) rfl rfl ?_ | refine r_pure (a_assign (r := .ptr _)) rfl rfl ?_ | refine r_pure (a_assign (r := .tup _)) rfl rfl ?_ | refine r_pure (a_assign (r := .fn _ _)) rfl rfl ?_ | refine r_pure (a_assign (r := .mb _ _)) rfl rfl ?_ | refine r_pure (a_assign (r := .any)) rfl rfl ?_)
  refine arun_nil ?_
  (repeat (first | refine awp_seq ?_ | refine awp_block ?_ | refine awp_skip ?_ | refine awp_ret ?_ | refine awp_exit ?_ | refine thn_n ?_ | refine thn_r ?_ | refine thn_x ?_ | refine inb_n ?_ | refine inb_r ?_ | refine inb_x ?_ | refine inb_y rfl ?_))
  refine awp_text (by kernel_rfl) ?_
  (first | refine r_pure (a_assign (r := .p _)) rfl rfl ?_ | refine r_pure (a_assign (r := .row _)) rfl rfl ?_ | refine r_pure (a_assign (r := .ref _ _)) rfl rfl ?_ | refine r_pure (a_assign (r := .agg _)) rfl rfl ?_ | refine r_pure (a_assign (r := .psl _ _ _ _)) rfl rfl ?_ | refine r_pure (a_assign (r := .ptr _)) rfl rfl ?_ | refine r_pure (a_assign (r := .tup _)) rfl rfl ?_ | refine r_pure (a_assign (r := .fn _ _)) rfl rfl ?_ | refine r_pure (a_assign (r := .mb _ _)) rfl rfl ?_ | refine r_pure (a_assign (r := .any)) rfl rfl ?_)
  refine arun_nil ?_
  (repeat (first | refine awp_seq ?_ | refine awp_block ?_ | refine awp_skip ?_ | refine awp_ret ?_ | refine awp_exit ?_ | refine thn_n ?_ | refine thn_r ?_ | refine thn_x ?_ | refine inb_n ?_ | refine inb_r ?_ | refine inb_x ?_ | refine inb_y rfl ?_))
  refine awp_text (by kernel_rfl) ?_
  (first | refine r_pure (a_move (r := .p _)) rfl rfl ?_ | refine r_pure (a_move (r := .row _)) rfl rfl ?_ | refine r_pure (a_move (r := .ref _ _)) rfl rfl ?_ | refine r_pure (a_move (r := .agg _)) rfl rfl ?_ | refine r_pure (a_move (r := .psl _ _ _ _)) rfl rfl ?_ | refine r_pure (a_move (r := .ptr _)) rfl rfl ?_ | refine r_pure (a_move (r := .tup _)) rfl rfl ?_ | refine r_pure (a_move (r := .fn _ _)) rfl rfl ?_ | refine r_pure (a_move (r := .mb _ _)) rfl rfl ?_ | refine r_pure (a_move (r := .any)) rfl rfl ?_)
  (first | refine r_pure (a_lenS Try.underlying37) rfl rfl ?_ | refine r_pure (a_lenNil Try.underlying37) rfl rfl ?_ | refine r_pure (a_lenV Try.underlying37) rfl rfl ?_ | refine r_run (a_lenR Try.underlying37) rfl rfl ⟨rfl, trivial⟩ ?_)
  (first | refine r_pure (a_move (r := .p _)) rfl rfl ?_ | refine r_pure (a_move (r := .row _)) rfl rfl ?_ | refine r_pure (a_move (r := .ref _ _)) rfl rfl ?_ | refine r_pure (a_move (r := .agg _)) rfl rfl ?_ | refine r_pure (a_move (r := .psl _ _ _ _)) rfl rfl ?_ | refine r_pure (a_move (r := .ptr _)) rfl rfl ?_ | refine r_pure (a_move (r := .tup _)) rfl rfl ?_ | refine r_pure (a_move (r := .fn _ _)) rfl rfl ?_ | refine r_pure (a_move (r := .mb _ _)) rfl rfl ?_ | refine r_pure (a_move (r := .any)) rfl rfl ?_)
  refine arun_nil ?_
  (repeat (first | refine awp_seq ?_ | refine awp_block ?_ | refine awp_skip ?_ | refine awp_ret ?_ | refine awp_exit ?_ | refine thn_n ?_ | refine thn_r ?_ | refine thn_x ?_ | refine inb_n ?_ | refine inb_r ?_ | refine inb_x ?_ | refine inb_y rfl ?_))
  refine awp_loopR (fun m st => ∃ k : Nat, m + k = N ∧ st = St.of [(3, .p (.v (.int .i64 (most (Q.take k))))), (8, .p (.sl N 41 L.flatten)), (9, .p (.v (.int .i64 N))), (10, .p (.v (.int .i64 k)))] []) N ?_ ?_
  · refine ⟨_, re_of id _ _ ?_ ?_ rfl, 0, by omega, rfl⟩
    · (repeat (first | exact trivial | (refine ⟨⟨(by first | rfl | (simp; done) | (simp; omega)), rfl⟩, ?_⟩)))
    · exact trivial
  rintro m st ⟨k, hk, rfl⟩
  (repeat (first | refine awp_seq ?_ | refine awp_block ?_ | refine awp_skip ?_ | refine awp_ret ?_ | refine awp_exit ?_ | refine thn_n ?_ | refine thn_r ?_ | refine thn_x ?_ | refine inb_n ?_ | refine inb_r ?_ | refine inb_x ?_ | refine inb_y rfl ?_))
  refine awp_text (by kernel_rfl) ?_
  (refine r_pure a_lss rfl rfl ?_)
  refine arun_nil ?_
  (repeat (first | refine awp_seq ?_ | refine awp_block ?_ | refine awp_skip ?_ | refine awp_ret ?_ | refine awp_exit ?_ | refine thn_n ?_ | refine thn_r ?_ | refine thn_x ?_ | refine inb_n ?_ | refine inb_r ?_ | refine inb_x ?_ | refine inb_y rfl ?_))
  refine awp_cond _ rfl (fun h => ?_) (fun h => ?_)
  · have hlt : k < N := by simpa using h
    clear h
    obtain ⟨e, he⟩ : ∃ e, L[k]? = some e := ⟨L[k]'(by omega), List.getElem?_eq_getElem (by omega)⟩
    obtain ⟨q, hq⟩ : ∃ q, Q[k]? = some q := ⟨Q[k]'(by omega), List.getElem?_eq_getElem (by omega)⟩
    obtain ⟨g0, g5, g16, g27, g36⟩ := hst k e q he hq
    obtain ⟨f1, f2⟩ := flat_at hlen he
    have f3 : 41 ≤ (L.flatten.drop (k * 41)).length := by rw [List.length_drop]; omega
    have k5 : (e.map AV.p)[5]? = some (.p (.v (.int .i64 q.1))) := by simp [g5]
    have k16 : (e.map AV.p)[16]? = some (.p (.v (.int .i64 q.2.1))) := by simp [g16]
    have k27 : (e.map AV.p)[27]? = some (.p (.v (.int .i64 q.2.2.1))) := by simp [g27]
    have k36 : (e.map AV.p)[36]? = some (.p (.v (.int .i64 q.2.2.2))) := by simp [g36]
    (repeat (first | refine awp_seq ?_ | refine awp_block ?_ | refine awp_skip ?_ | refine awp_ret ?_ | refine awp_exit ?_ | refine thn_n ?_ | refine thn_r ?_ | refine thn_x ?_ | refine inb_n ?_ | refine inb_r ?_ | refine inb_x ?_ | refine inb_y rfl ?_))
    refine awp_text (by kernel_rfl) ?_
    (first | refine r_pure (a_indexAddrS Try.underlying37 sz80 (by omega) (by omega) (by rw [Int.toNat_natCast])) rfl rfl ?_ | refine r_run (a_indexAddrR Try.underlying37 sz80 (by omega) (by omega) (by first | (simp only [Int.toNat_natCast, Nat.mul_one, Nat.zero_add]; rfl) | rfl)) rfl rfl ⟨rfl, trivial⟩ ?_ | refine r_pure (a_indexAddrV Try.underlying37 sz80 (by omega) (by omega) (by first | (simp only [Int.toNat_natCast, Nat.mul_one, Nat.zero_add]; rfl) | rfl)) rfl rfl ?_)
    (first | refine r_run (a_loadN Try.underlying80 rfl sz80 (by first | exact Nat.le_of_ble_eq_true rfl | (simp only [AV.cells, List.length_map]; omega)) (by first | exact take_all (by first | exact Nat.eq_of_beq_eq_true rfl | (simp only [AV.cells, List.length_map]; first | assumption | omega)) | (simp only [List.take_succ_cons, List.take_zero, List.drop_succ_cons, List.drop_zero]; rfl) | rfl)) rfl rfl ⟨rfl, trivial⟩ ?_ | refine r_run (a_loadNr Try.underlying80 rfl sz80 (by omega) (f1)) rfl rfl ⟨rfl, trivial⟩ ?_ | refine r_pure (a_loadNp Try.underlying80 rfl sz80 f3 (f1)) rfl rfl ?_)
    (refine r_run (a_alloc 5 zr80 rfl) rfl rfl ⟨rfl, trivial⟩ ?_)
    (first | refine r_run (a_storeAll (Y := .agg _) sz80 rfl (by first | exact Nat.eq_of_beq_eq_true rfl | (simp only [AV.cells, List.length_map]; first | assumption | omega)) (Nat.eq_of_beq_eq_true rfl)) rfl rfl ⟨rfl, trivial⟩ ?_ | refine r_run (a_store (Y := .agg _) sz80 rfl (by first | exact Nat.eq_of_beq_eq_true rfl | (simp only [AV.cells, List.length_map]; first | assumption | omega)) (by first | exact Nat.le_of_ble_eq_true rfl | (simp only [AV.cells, List.length_map]; omega)) (by first | (simp only [setR, AV.cells, List.take_succ_cons, List.take_zero, List.drop_succ_cons, List.drop_zero, List.drop_nil, List.take_nil, List.nil_append, List.cons_append, List.append_nil, List.length_cons, List.length_nil, Nat.reduceAdd, Nat.zero_add, Nat.add_zero]; rfl) | rfl)) rfl rfl ⟨rfl, trivial⟩ ?_ | refine r_run (a_storeR (Y := .agg _) sz80 rfl rfl (by first | rfl | omega) (by omega) rfl) rfl rfl ⟨rfl, trivial⟩ ?_)
    refine arun_nil ?_
    (repeat (first | refine awp_seq ?_ | refine awp_block ?_ | refine awp_skip ?_ | refine awp_ret ?_ | refine awp_exit ?_ | refine thn_n ?_ | refine thn_r ?_ | refine thn_x ?_ | refine inb_n ?_ | refine inb_r ?_ | refine inb_x ?_ | refine inb_y rfl ?_))
    refine awp_text (by kernel_rfl) ?_
    (first | refine r_run (a_loadN Try.underlying80 rfl sz80 (by first | exact Nat.le_of_ble_eq_true rfl | (simp only [AV.cells, List.length_map]; omega)) (by first | exact take_all (by first | exact Nat.eq_of_beq_eq_true rfl | (simp only [AV.cells, List.length_map]; first | assumption | omega)) | (simp only [List.take_succ_cons, List.take_zero, List.drop_succ_cons, List.drop_zero]; rfl) | rfl)) rfl rfl ⟨rfl, trivial⟩ ?_ | refine r_run (a_loadNr Try.underlying80 rfl sz80 (by omega) (rfl)) rfl rfl ⟨rfl, trivial⟩ ?_ | refine r_pure (a_loadNp Try.underlying80 rfl sz80 (by omega) (rfl)) rfl rfl ?_)
    (refine r_callS (fun n => 15 + 1000 * n) (given_s _ _ _ _ _ k5 k16 k27 k36) rfl rfl Try.func55 rfl rfl (by first | rfl | simp [AV.okInL, AV.okIn, okInL_map]) rfl rfl rfl (by first | exact trivial | exact ⟨rfl, trivial⟩ | exact ⟨rfl, rfl, trivial⟩) rfl rfl rfl ?_)
    (first | refine r_pure (a_lenS Try.underlying84) rfl rfl ?_ | refine r_pure (a_lenNil Try.underlying84) rfl rfl ?_ | refine r_pure (a_lenV Try.underlying84) rfl rfl ?_ | refine r_run (a_lenR Try.underlying84) rfl rfl ⟨rfl, trivial⟩ ?_)
    (first | refine r_pure (a_move (r := .p _)) rfl rfl ?_ | refine r_pure (a_move (r := .row _)) rfl rfl ?_ | refine r_pure (a_move (r := .ref _ _)) rfl rfl ?_ | refine r_pure (a_move (r := .agg _)) rfl rfl ?_ | refine r_pure (a_move (r := .psl _ _ _ _)) rfl rfl ?_ | refine r_pure (a_move (r := .ptr _)) rfl rfl ?_ | refine r_pure (a_move (r := .tup _)) rfl rfl ?_ | refine r_pure (a_move (r := .fn _ _)) rfl rfl ?_ | refine r_pure (a_move (r := .mb _ _)) rfl rfl ?_ | refine r_pure (a_move (r := .any)) rfl rfl ?_)
    refine arun_nil ?_
    (repeat (first | refine awp_seq ?_ | refine awp_block ?_ | refine awp_skip ?_ | refine awp_ret ?_ | refine awp_exit ?_ | refine thn_n ?_ | refine thn_r ?_ | refine thn_x ?_ | refine inb_n ?_ | refine inb_r ?_ | refine inb_x ?_ | refine inb_y rfl ?_))
    refine awp_loopR (fun m2 st => ∃ j : Nat, m2 + j = 4 ∧ st = St.of [(3, .p (.v (.int .i64 (mx (most (Q.take k)) (q.l4.take j))))), (8, .p (.sl N 41 L.flatten)), (9, .p (.v (.int .i64 N))), (10, .p (.v (.int .i64 k))), (15, .row 15), (16, .p (.v (.int .i64 4))), (17, .p (.v (.int .i64 j)))] [(15, .row 3 1 4 (is q.l4))]) 4 ?_ ?_
    · refine ⟨_, re_of id _ _ ?_ ?_ rfl, 0, by omega, rfl⟩
      · (repeat (first | exact trivial | (refine ⟨⟨(by first | rfl | (simp; done) | (simp; omega)), rfl⟩, ?_⟩)))
      · exact ⟨⟨rfl, rfl⟩, trivial⟩
    rintro m2 st ⟨j, hj, rfl⟩
    (repeat (first | refine awp_seq ?_ | refine awp_block ?_ | refine awp_skip ?_ | refine awp_ret ?_ | refine awp_exit ?_ | refine thn_n ?_ | refine thn_r ?_ | refine thn_x ?_ | refine inb_n ?_ | refine inb_r ?_ | refine inb_x ?_ | refine inb_y rfl ?_))
    refine awp_text (by kernel_rfl) ?_
    (refine r_pure a_lss rfl rfl ?_)
    refine arun_nil ?_
    (repeat (first | refine awp_seq ?_ | refine awp_block ?_ | refine awp_skip ?_ | refine awp_ret ?_ | refine awp_exit ?_ | refine thn_n ?_ | refine thn_r ?_ | refine thn_x ?_ | refine inb_n ?_ | refine inb_r ?_ | refine inb_x ?_ | refine inb_y rfl ?_))
    refine awp_cond _ rfl (fun h => ?_) (fun h => ?_)
    · have hj4 : j < 4 := by have : (j : Int) < 4 := by simpa using h
                             omega
      clear h
      have hx4 : j < q.l4.length := hj4
      have hat := is_at hx4
      (repeat (first | refine awp_seq ?_ | refine awp_block ?_ | refine awp_skip ?_ | refine awp_ret ?_ | refine awp_exit ?_ | refine thn_n ?_ | refine thn_r ?_ | refine thn_x ?_ | refine inb_n ?_ | refine inb_r ?_ | refine inb_x ?_ | refine inb_y rfl ?_))
      refine awp_text (by kernel_rfl) ?_
      (first | refine r_pure (a_indexAddrS Try.underlying84 sz3 (by omega) (by omega) rfl) rfl rfl ?_ | refine r_run (a_indexAddrR Try.underlying84 sz3 (by omega) (by omega) (by first | (simp only [Int.toNat_natCast, Nat.mul_one, Nat.zero_add]; rfl) | rfl)) rfl rfl ⟨rfl, trivial⟩ ?_ | refine r_pure (a_indexAddrV Try.underlying84 sz3 (by omega) (by omega) (by first | (simp only [Int.toNat_natCast, Nat.mul_one, Nat.zero_add]; rfl) | rfl)) rfl rfl ?_)
      (first | refine r_run (a_load1 Try.underlying3 rfl (by first | rfl | assumption)) rfl rfl ⟨rfl, trivial⟩ ?_ | refine r_run (a_load1r Try.underlying3 rfl (by first | rfl | assumption | ((try simp only [List.getElem?_drop, List.getElem?_take, Int.toNat_natCast, Nat.mul_one, Nat.add_zero, Nat.zero_add]); first | assumption | rfl))) rfl rfl ⟨rfl, trivial⟩ ?_ | refine r_pure (a_load1p Try.underlying3 rfl (by first | rfl | assumption | ((try simp only [List.getElem?_drop, List.getElem?_take, Int.toNat_natCast, Nat.mul_one, Nat.add_zero, Nat.zero_add]); first | assumption | rfl))) rfl rfl ?_)
      (first | refine r_pure (a_assign (r := .p _)) rfl rfl ?_ | refine r_pure (a_assign (r := .row _)) rfl rfl ?_ | refine r_pure (a_assign (r := .ref _ _)) rfl rfl ?_ | refine r_pure (a_assign (r := .agg _)) rfl rfl ?_ | refine r_pure (a_assign (r := .psl _ _ _ _)) rfl rfl ?_ | refine r_pure (a_assign (r := .ptr _)) rfl rfl ?_ | refine r_pure (a_assign (r := .tup _)) rfl rfl ?_ | refine r_pure (a_assign (r := .fn _ _)) rfl rfl ?_ | refine r_pure (a_assign (r := .mb _ _)) rfl rfl ?_ | refine r_pure (a_assign (r := .any)) rfl rfl ?_)
      refine arun_nil ?_
      (repeat (first | refine awp_seq ?_ | refine awp_block ?_ | refine awp_skip ?_ | refine awp_ret ?_ | refine awp_exit ?_ | refine thn_n ?_ | refine thn_r ?_ | refine thn_x ?_ | refine inb_n ?_ | refine inb_r ?_ | refine inb_x ?_ | refine inb_y rfl ?_))
      refine awp_text (by kernel_rfl) ?_
      (first | refine r_pure (a_move (r := .p _)) rfl rfl ?_ | refine r_pure (a_move (r := .row _)) rfl rfl ?_ | refine r_pure (a_move (r := .ref _ _)) rfl rfl ?_ | refine r_pure (a_move (r := .agg _)) rfl rfl ?_ | refine r_pure (a_move (r := .psl _ _ _ _)) rfl rfl ?_ | refine r_pure (a_move (r := .ptr _)) rfl rfl ?_ | refine r_pure (a_move (r := .tup _)) rfl rfl ?_ | refine r_pure (a_move (r := .fn _ _)) rfl rfl ?_ | refine r_pure (a_move (r := .mb _ _)) rfl rfl ?_ | refine r_pure (a_move (r := .any)) rfl rfl ?_)
      (first | refine r_pure (a_move (r := .p _)) rfl rfl ?_ | refine r_pure (a_move (r := .row _)) rfl rfl ?_ | refine r_pure (a_move (r := .ref _ _)) rfl rfl ?_ | refine r_pure (a_move (r := .agg _)) rfl rfl ?_ | refine r_pure (a_move (r := .psl _ _ _ _)) rfl rfl ?_ | refine r_pure (a_move (r := .ptr _)) rfl rfl ?_ | refine r_pure (a_move (r := .tup _)) rfl rfl ?_ | refine r_pure (a_move (r := .fn _ _)) rfl rfl ?_ | refine r_pure (a_move (r := .mb _ _)) rfl rfl ?_ | refine r_pure (a_move (r := .any)) rfl rfl ?_)
      (refine r_pure a_gtr rfl rfl ?_)
      refine arun_nil ?_
      (repeat (first | refine awp_seq ?_ | refine awp_block ?_ | refine awp_skip ?_ | refine awp_ret ?_ | refine awp_exit ?_ | refine thn_n ?_ | refine thn_r ?_ | refine thn_x ?_ | refine inb_n ?_ | refine inb_r ?_ | refine inb_x ?_ | refine inb_y rfl ?_))
      refine awp_cond _ rfl (fun h => ?_) (fun h => ?_)
      · have h2 : mx (most (Q.take k)) (q.l4.take j) < q.l4[j] := by simpa using h
        have h3 := mx_take (n := most (Q.take k)) hx4
        rw [show max (mx (most (Q.take k)) (q.l4.take j)) q.l4[j] = q.l4[j] by omega] at h3
        (repeat (first | refine awp_seq ?_ | refine awp_block ?_ | refine awp_skip ?_ | refine awp_ret ?_ | refine awp_exit ?_ | refine thn_n ?_ | refine thn_r ?_ | refine thn_x ?_ | refine inb_n ?_ | refine inb_r ?_ | refine inb_x ?_ | refine inb_y rfl ?_))
        refine awp_text (by kernel_rfl) ?_
        (first | refine r_pure (a_move (r := .p _)) rfl rfl ?_ | refine r_pure (a_move (r := .row _)) rfl rfl ?_ | refine r_pure (a_move (r := .ref _ _)) rfl rfl ?_ | refine r_pure (a_move (r := .agg _)) rfl rfl ?_ | refine r_pure (a_move (r := .psl _ _ _ _)) rfl rfl ?_ | refine r_pure (a_move (r := .ptr _)) rfl rfl ?_ | refine r_pure (a_move (r := .tup _)) rfl rfl ?_ | refine r_pure (a_move (r := .fn _ _)) rfl rfl ?_ | refine r_pure (a_move (r := .mb _ _)) rfl rfl ?_ | refine r_pure (a_move (r := .any)) rfl rfl ?_)
        (first | refine r_pure (a_assign (r := .p _)) rfl rfl ?_ | refine r_pure (a_assign (r := .row _)) rfl rfl ?_ | refine r_pure (a_assign (r := .ref _ _)) rfl rfl ?_ | refine r_pure (a_assign (r := .agg _)) rfl rfl ?_ | refine r_pure (a_assign (r := .psl _ _ _ _)) rfl rfl ?_ | refine r_pure (a_assign (r := .ptr _)) rfl rfl ?_ | refine r_pure (a_assign (r := .tup _)) rfl rfl ?_ | refine r_pure (a_assign (r := .fn _ _)) rfl rfl ?_ | refine r_pure (a_assign (r := .mb _ _)) rfl rfl ?_ | refine r_pure (a_assign (r := .any)) rfl rfl ?_)
        refine arun_nil ?_
        (repeat (first | refine awp_seq ?_ | refine awp_block ?_ | refine awp_skip ?_ | refine awp_ret ?_ | refine awp_exit ?_ | refine thn_n ?_ | refine thn_r ?_ | refine thn_x ?_ | refine inb_n ?_ | refine inb_r ?_ | refine inb_x ?_ | refine inb_y rfl ?_))
        refine awp_text (by kernel_rfl) ?_
        (refine r_pure (a_add (by first | exact IntWalk.i64_in _ (by omega) | rfl)) rfl rfl ?_)
        (first | refine r_pure (a_move (r := .p _)) rfl rfl ?_ | refine r_pure (a_move (r := .row _)) rfl rfl ?_ | refine r_pure (a_move (r := .ref _ _)) rfl rfl ?_ | refine r_pure (a_move (r := .agg _)) rfl rfl ?_ | refine r_pure (a_move (r := .psl _ _ _ _)) rfl rfl ?_ | refine r_pure (a_move (r := .ptr _)) rfl rfl ?_ | refine r_pure (a_move (r := .tup _)) rfl rfl ?_ | refine r_pure (a_move (r := .fn _ _)) rfl rfl ?_ | refine r_pure (a_move (r := .mb _ _)) rfl rfl ?_ | refine r_pure (a_move (r := .any)) rfl rfl ?_)
        refine arun_nil ?_
        (repeat (first | refine awp_seq ?_ | refine awp_block ?_ | refine awp_skip ?_ | refine awp_ret ?_ | refine awp_exit ?_ | refine thn_n ?_ | refine thn_r ?_ | refine thn_x ?_ | refine inb_n ?_ | refine inb_r ?_ | refine inb_x ?_ | refine inb_y rfl ?_))
        refine ⟨m2 - 1, by omega, _, re_of id _ _ ?_ ?_ rfl, j + 1, by omega, rfl⟩
        · rw [← h3]
          (repeat (first | exact trivial | (refine ⟨⟨(by first | rfl | (simp; done) | (simp; omega)), rfl⟩, ?_⟩)))
        · exact ⟨⟨rfl, rfl⟩, trivial⟩
      · have h2 : ¬ mx (most (Q.take k)) (q.l4.take j) < q.l4[j] := by simpa using h
        have h3 := mx_take (n := most (Q.take k)) hx4
        rw [show max (mx (most (Q.take k)) (q.l4.take j)) q.l4[j] = mx (most (Q.take k)) (q.l4.take j) by omega] at h3
        (repeat (first | refine awp_seq ?_ | refine awp_block ?_ | refine awp_skip ?_ | refine awp_ret ?_ | refine awp_exit ?_ | refine thn_n ?_ | refine thn_r ?_ | refine thn_x ?_ | refine inb_n ?_ | refine inb_r ?_ | refine inb_x ?_ | refine inb_y rfl ?_))
        refine awp_text (by kernel_rfl) ?_
        (refine r_pure (a_add (by first | exact IntWalk.i64_in _ (by omega) | rfl)) rfl rfl ?_)
        (first | refine r_pure (a_move (r := .p _)) rfl rfl ?_ | refine r_pure (a_move (r := .row _)) rfl rfl ?_ | refine r_pure (a_move (r := .ref _ _)) rfl rfl ?_ | refine r_pure (a_move (r := .agg _)) rfl rfl ?_ | refine r_pure (a_move (r := .psl _ _ _ _)) rfl rfl ?_ | refine r_pure (a_move (r := .ptr _)) rfl rfl ?_ | refine r_pure (a_move (r := .tup _)) rfl rfl ?_ | refine r_pure (a_move (r := .fn _ _)) rfl rfl ?_ | refine r_pure (a_move (r := .mb _ _)) rfl rfl ?_ | refine r_pure (a_move (r := .any)) rfl rfl ?_)
        refine arun_nil ?_
        (repeat (first | refine awp_seq ?_ | refine awp_block ?_ | refine awp_skip ?_ | refine awp_ret ?_ | refine awp_exit ?_ | refine thn_n ?_ | refine thn_r ?_ | refine thn_x ?_ | refine inb_n ?_ | refine inb_r ?_ | refine inb_x ?_ | refine inb_y rfl ?_))
        refine ⟨m2 - 1, by omega, _, re_of id _ _ ?_ ?_ rfl, j + 1, by omega, rfl⟩
        · rw [← h3]
          (repeat (first | exact trivial | (refine ⟨⟨(by first | rfl | (simp; done) | (simp; omega)), rfl⟩, ?_⟩)))
        · exact ⟨⟨rfl, rfl⟩, trivial⟩
    · have hj4 : ¬ j < 4 := by have : ¬ (j : Int) < 4 := by simpa using h
                               omega
      obtain rfl : j = 4 := by omega
      (repeat (first | refine awp_seq ?_ | refine awp_block ?_ | refine awp_skip ?_ | refine awp_ret ?_ | refine awp_exit ?_ | refine thn_n ?_ | refine thn_r ?_ | refine thn_x ?_ | refine inb_n ?_ | refine inb_r ?_ | refine inb_x ?_ | refine inb_y rfl ?_))
      refine awp_text (by kernel_rfl) ?_
      (refine r_pure (a_add (by first | exact IntWalk.i64_in _ (by omega) | rfl)) rfl rfl ?_)
      (first | refine r_pure (a_move (r := .p _)) rfl rfl ?_ | refine r_pure (a_move (r := .row _)) rfl rfl ?_ | refine r_pure (a_move (r := .ref _ _)) rfl rfl ?_ | refine r_pure (a_move (r := .agg _)) rfl rfl ?_ | refine r_pure (a_move (r := .psl _ _ _ _)) rfl rfl ?_ | refine r_pure (a_move (r := .ptr _)) rfl rfl ?_ | refine r_pure (a_move (r := .tup _)) rfl rfl ?_ | refine r_pure (a_move (r := .fn _ _)) rfl rfl ?_ | refine r_pure (a_move (r := .mb _ _)) rfl rfl ?_ | refine r_pure (a_move (r := .any)) rfl rfl ?_)
      refine arun_nil ?_
      (repeat (first | refine awp_seq ?_ | refine awp_block ?_ | refine awp_skip ?_ | refine awp_ret ?_ | refine awp_exit ?_ | refine thn_n ?_ | refine thn_r ?_ | refine thn_x ?_ | refine inb_n ?_ | refine inb_r ?_ | refine inb_x ?_ | refine inb_y rfl ?_))
      refine ⟨m - 1, by omega, _, re_of id _ _ ?_ ?_ rfl, k + 1, by omega, rfl⟩
      · rw [← most_take hq, mx_l5 (most_nn _)]
        (repeat (first | exact trivial | (refine ⟨⟨(by first | rfl | (simp; done) | (simp; omega)), rfl⟩, ?_⟩)))
      · exact trivial
  · have hge : ¬ k < N := by simpa using h
    (repeat (first | refine awp_seq ?_ | refine awp_block ?_ | refine awp_skip ?_ | refine awp_ret ?_ | refine awp_exit ?_ | refine thn_n ?_ | refine thn_r ?_ | refine thn_x ?_ | refine inb_n ?_ | refine inb_r ?_ | refine inb_x ?_ | refine inb_y rfl ?_))
    refine awp_text (by kernel_rfl) ?_
    (first | refine r_pure (a_move (r := .p _)) rfl rfl ?_ | refine r_pure (a_move (r := .row _)) rfl rfl ?_ | refine r_pure (a_move (r := .ref _ _)) rfl rfl ?_ | refine r_pure (a_move (r := .agg _)) rfl rfl ?_ | refine r_pure (a_move (r := .psl _ _ _ _)) rfl rfl ?_ | refine r_pure (a_move (r := .ptr _)) rfl rfl ?_ | refine r_pure (a_move (r := .tup _)) rfl rfl ?_ | refine r_pure (a_move (r := .fn _ _)) rfl rfl ?_ | refine r_pure (a_move (r := .mb _ _)) rfl rfl ?_ | refine r_pure (a_move (r := .any)) rfl rfl ?_)
    (first | refine r_pure (a_assign (r := .p _)) rfl rfl ?_ | refine r_pure (a_assign (r := .row _)) rfl rfl ?_ | refine r_pure (a_assign (r := .ref _ _)) rfl rfl ?_ | refine r_pure (a_assign (r := .agg _)) rfl rfl ?_ | refine r_pure (a_assign (r := .psl _ _ _ _)) rfl rfl ?_ | refine r_pure (a_assign (r := .ptr _)) rfl rfl ?_ | refine r_pure (a_assign (r := .tup _)) rfl rfl ?_ | refine r_pure (a_assign (r := .fn _ _)) rfl rfl ?_ | refine r_pure (a_assign (r := .mb _ _)) rfl rfl ?_ | refine r_pure (a_assign (r := .any)) rfl rfl ?_)
    refine arun_nil ?_
    (repeat (first | refine awp_seq ?_ | refine awp_block ?_ | refine awp_skip ?_ | refine awp_ret ?_ | refine awp_exit ?_ | refine thn_n ?_ | refine thn_r ?_ | refine thn_x ?_ | refine inb_n ?_ | refine inb_r ?_ | refine inb_x ?_ | refine inb_y rfl ?_))
    refine ⟨(by first | exact .inl rfl | exact .inr rfl), _, (fun o => o), (.tmp _ _ _ _ rfl .nil), ?_, rfl, ?_, rfl⟩
    · rw [List.take_of_length_le (show Q.length ≤ k by omega)]; first | done | (refine (?_ : _ = _); kernel_rfl)
    · exact trivial
end Go.Proofs.Ytcbjngndlofpfaa
