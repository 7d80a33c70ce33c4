/- table.numbers and table.Find, over data. -/
import Derived.Test.YtcjnecmgificmaaDoorTab
namespace Go.Proofs.YtcjnecmgificmaaDoor
open Go.RowKit Go.Sort
set_option linter.unusedVariables false
set_option linter.unusedSimpArgs false

set_option maxRecDepth 100000 in
theorem numbers_s (X : List AV) (a b c d : Int) (h5 : X[5]? = some (.p (.v (.int .i64 a)))) (h16 : X[16]? = some (.p (.v (.int .i64 b)))) (h27 : X[27]? = some (.p (.v (.int .i64 c)))) (h36 : X[36]? = some (.p (.v (.int .i64 d)))) :
    Fn Tryd.prog 52 [.agg X] (.agg [.p (.v (.int .i64 0)), .p (.v (.int .i64 a)), .p (.v (.int .i64 b)), .p (.v (.int .i64 c)), .p (.v (.int .i64 d))]) [] := by
  refine fn_intro Tryd.func52 rfl (Nat.le_of_ble_eq_true rfl) fun w0 A => ?_
  (repeat (first | refine awp_seq ?_ | refine awp_block ?_ | refine awp_skip ?_ | refine awp_ret ?_ | refine awp_exit ?_ | refine thn_n ?_ | refine thn_r ?_ | refine thn_x ?_ | refine inb_n ?_ | refine inb_r ?_ | refine inb_x ?_ | refine inb_y rfl ?_))
  refine awp_text (by kernel_rfl) ?_
  (refine r_run (a_box (X := .agg _) 1 rfl) rfl rfl ⟨rfl, trivial⟩ ?_)
  (refine r_run (a_alloc 2 zr102 rfl) rfl rfl ⟨rfl, trivial⟩ ?_)
  refine arun_nil ?_
  (repeat (first | refine awp_seq ?_ | refine awp_block ?_ | refine awp_skip ?_ | refine awp_ret ?_ | refine awp_exit ?_ | refine thn_n ?_ | refine thn_r ?_ | refine thn_x ?_ | refine inb_n ?_ | refine inb_r ?_ | refine inb_x ?_ | refine inb_y rfl ?_))
  refine awp_text (by kernel_rfl) ?_
  (first | refine r_pure (b_fieldAddr fi51_2 rfl) rfl rfl ?_ | refine r_pure (b_fieldAddrP fi51_2 rfl) rfl rfl ?_)
  (first | refine r_pure (b_fieldAddr fi46_0 rfl) rfl rfl ?_ | refine r_pure (b_fieldAddrP fi46_0 rfl) rfl rfl ?_)
  (first | refine r_pure (b_fieldAddr fi44_3 rfl) rfl rfl ?_ | refine r_pure (b_fieldAddrP fi44_3 rfl) rfl rfl ?_)
  (first | refine r_run (a_load1 Tryd.underlying3 rfl (by first | rfl | assumption)) rfl rfl ⟨rfl, trivial⟩ ?_ | refine r_run (a_load1r Tryd.underlying3 rfl (by first | rfl | assumption | ((try simp only [List.getElem?_drop, List.getElem?_take, Int.toNat_natCast, Nat.mul_one, Nat.add_zero, Nat.zero_add]); first | assumption | rfl))) rfl rfl ⟨rfl, trivial⟩ ?_ | refine r_pure (a_load1p Tryd.underlying3 rfl (by first | rfl | assumption | ((try simp only [List.getElem?_drop, List.getElem?_take, Int.toNat_natCast, Nat.mul_one, Nat.add_zero, Nat.zero_add]); first | assumption | rfl))) rfl rfl ?_)
  (first | refine r_pure (b_fieldAddr fi51_2 rfl) rfl rfl ?_ | refine r_pure (b_fieldAddrP fi51_2 rfl) rfl rfl ?_)
  (first | refine r_pure (b_fieldAddr fi46_1 rfl) rfl rfl ?_ | refine r_pure (b_fieldAddrP fi46_1 rfl) rfl rfl ?_)
  (first | refine r_pure (b_fieldAddr fi44_3 rfl) rfl rfl ?_ | refine r_pure (b_fieldAddrP fi44_3 rfl) rfl rfl ?_)
  (first | refine r_run (a_load1 Tryd.underlying3 rfl (by first | rfl | assumption)) rfl rfl ⟨rfl, trivial⟩ ?_ | refine r_run (a_load1r Tryd.underlying3 rfl (by first | rfl | assumption | ((try simp only [List.getElem?_drop, List.getElem?_take, Int.toNat_natCast, Nat.mul_one, Nat.add_zero, Nat.zero_add]); first | assumption | rfl))) rfl rfl ⟨rfl, trivial⟩ ?_ | refine r_pure (a_load1p Tryd.underlying3 rfl (by first | rfl | assumption | ((try simp only [List.getElem?_drop, List.getElem?_take, Int.toNat_natCast, Nat.mul_one, Nat.add_zero, Nat.zero_add]); first | assumption | rfl))) rfl rfl ?_)
  (first | refine r_pure (b_fieldAddr fi51_2 rfl) rfl rfl ?_ | refine r_pure (b_fieldAddrP fi51_2 rfl) rfl rfl ?_)
  (first | refine r_pure (b_fieldAddr fi46_2 rfl) rfl rfl ?_ | refine r_pure (b_fieldAddrP fi46_2 rfl) rfl rfl ?_)
  (first | refine r_pure (b_fieldAddr fi44_3 rfl) rfl rfl ?_ | refine r_pure (b_fieldAddrP fi44_3 rfl) rfl rfl ?_)
  (first | refine r_run (a_load1 Tryd.underlying3 rfl (by first | rfl | assumption)) rfl rfl ⟨rfl, trivial⟩ ?_ | refine r_run (a_load1r Tryd.underlying3 rfl (by first | rfl | assumption | ((try simp only [List.getElem?_drop, List.getElem?_take, Int.toNat_natCast, Nat.mul_one, Nat.add_zero, Nat.zero_add]); first | assumption | rfl))) rfl rfl ⟨rfl, trivial⟩ ?_ | refine r_pure (a_load1p Tryd.underlying3 rfl (by first | rfl | assumption | ((try simp only [List.getElem?_drop, List.getElem?_take, Int.toNat_natCast, Nat.mul_one, Nat.add_zero, Nat.zero_add]); first | assumption | rfl))) rfl rfl ?_)
  (first | refine r_pure (b_fieldAddr fi51_3 rfl) rfl rfl ?_ | refine r_pure (b_fieldAddrP fi51_3 rfl) rfl rfl ?_)
  (first | refine r_pure (b_fieldAddr fi48_1 rfl) rfl rfl ?_ | refine r_pure (b_fieldAddrP fi48_1 rfl) rfl rfl ?_)
  (first | refine r_run (a_load1 Tryd.underlying3 rfl (by first | rfl | assumption)) rfl rfl ⟨rfl, trivial⟩ ?_ | refine r_run (a_load1r Tryd.underlying3 rfl (by first | rfl | assumption | ((try simp only [List.getElem?_drop, List.getElem?_take, Int.toNat_natCast, Nat.mul_one, Nat.add_zero, Nat.zero_add]); first | assumption | rfl))) rfl rfl ⟨rfl, trivial⟩ ?_ | refine r_pure (a_load1p Tryd.underlying3 rfl (by first | rfl | assumption | ((try simp only [List.getElem?_drop, List.getElem?_take, Int.toNat_natCast, Nat.mul_one, Nat.add_zero, Nat.zero_add]); first | assumption | rfl))) rfl rfl ?_)
  (refine r_pure (a_buildA Tryd.underlying102 zr102 rfl sz3 rfl) rfl rfl ?_)
  (first | refine r_run (a_storeAll (Y := .agg _) sz102 rfl (by first | exact Nat.eq_of_beq_eq_true rfl | (simp only [AV.cells, List.length_map]; first | assumption | omega)) (Nat.eq_of_beq_eq_true rfl)) rfl rfl ⟨rfl, trivial⟩ ?_ | refine r_run (a_store (Y := .agg _) sz102 rfl (by first | exact Nat.eq_of_beq_eq_true rfl | (simp only [AV.cells, List.length_map]; first | assumption | omega)) (by first | exact Nat.le_of_ble_eq_true rfl | omega | (simp only [AV.cells, List.length_map]; omega)) (by first | (simp only [setR, AV.cells, List.take_succ_cons, List.take_zero, List.drop_succ_cons, List.drop_zero, List.drop_nil, List.take_nil, List.nil_append, List.cons_append, List.append_nil, List.length_cons, List.length_nil, Nat.reduceAdd, Nat.zero_add, Nat.add_zero]; rfl) | rfl)) rfl rfl ⟨rfl, trivial⟩ ?_ | refine r_run (a_storeR (Y := .agg _) sz102 rfl rfl (by first | rfl | omega) (by first | omega | (simp; done) | (simp; omega)) rfl) rfl rfl ⟨rfl, trivial⟩ ?_)
  refine arun_nil ?_
  (repeat (first | refine awp_seq ?_ | refine awp_block ?_ | refine awp_skip ?_ | refine awp_ret ?_ | refine awp_exit ?_ | refine thn_n ?_ | refine thn_r ?_ | refine thn_x ?_ | refine inb_n ?_ | refine inb_r ?_ | refine inb_x ?_ | refine inb_y rfl ?_))
  refine ⟨(by first | exact .inl rfl | exact .inr rfl), _, (fun o => o), (.cellN _ _ _ _ _ _ _ _ _ rfl rfl Tryd.underlying102 rfl sz102 (by first | assumption | kernel_rfl) .nil), ?_, rfl, ?_, rfl⟩
  · kernel_rfl
  · exact trivial

def idxI (n : Int) : List Int → Int
  | [] => -1
  | x :: xs => if n = x then 0 else if idxI n xs < 0 then -1 else idxI n xs + 1
/-- ints as data -/
def is (xs : List Int) : List PV := xs.map fun x => .v (.int .i64 x)
theorem is_at {xs : List Int} {k : Nat} (h : k < xs.length) : (is xs)[k]? = some (.v (.int .i64 xs[k])) := by simp [is, h]
theorem idxI_at {n : Int} : ∀ {xs : List Int} {k : Nat}, (hk : k < xs.length) → n = xs[k] → (∀ j, (hj : j < k) → n ≠ xs[j]) → idxI n xs = k
  | x :: xs, 0, _, h, _ => by
    have : n = x := by simpa using h
    simp [idxI, this]
  | x :: xs, k + 1, hk, h, hb => by
    have h0 : n ≠ x := by simpa using hb 0 (by omega)
    have ih := idxI_at (xs := xs) (k := k) (by simpa using hk) (by simpa using h) (fun j hj => by simpa using hb (j + 1) (by omega))
    simp only [idxI, if_neg h0, ih]
    rw [if_neg (by omega)]
    omega
theorem idxI_none {n : Int} : ∀ {xs : List Int}, (∀ j, (hj : j < xs.length) → n ≠ xs[j]) → idxI n xs = -1
  | [], _ => rfl
  | x :: xs, hb => by
    have h0 : n ≠ x := hb 0 (by simp)
    have ih := idxI_none (n := n) (xs := xs) (fun j hj => hb (j + 1) (by simpa using hj))
    simp [idxI, h0, ih]

set_option maxRecDepth 100000 in
theorem index_s (xs : List Int) (n : Int) (N : Nat) (hN : xs.length = N) (hm : N ≤ 100000) : Fn Tryd.prog 86 [.p (.sl N 1 (is xs)), .p (.v (.int .i64 n))] (.p (.v (.int .i64 (idxI n xs)))) [] := by
  refine fn_intro Tryd.func86 rfl (Nat.le_of_ble_eq_true rfl) fun w0 A => ?_
  (repeat (first | refine awp_seq ?_ | refine awp_block ?_ | refine awp_skip ?_ | refine awp_ret ?_ | refine awp_exit ?_ | refine thn_n ?_ | refine thn_r ?_ | refine thn_x ?_ | refine inb_n ?_ | refine inb_r ?_ | refine inb_x ?_ | refine inb_y rfl ?_))
  refine awp_text (by kernel_rfl) ?_
  (first | refine r_pure (a_assign (r := .p _)) rfl rfl ?_ | refine r_pure (a_assign (r := .row _)) rfl rfl ?_ | refine r_pure (a_assign (r := .ref _ _)) rfl rfl ?_ | refine r_pure (a_assign (r := .agg _)) rfl rfl ?_ | refine r_pure (a_assign (r := .psl _ _ _ _)) rfl rfl ?_ | refine r_pure (a_assign (r := .ptr _)) rfl rfl ?_ | refine r_pure (a_assign (r := .tup _)) rfl rfl ?_ | refine r_pure (a_assign (r := .fn _ _)) rfl rfl ?_ | refine r_pure (a_assign (r := .mb _ _)) rfl rfl ?_ | refine r_pure (a_assign (r := .mp _)) rfl rfl ?_ | refine r_pure (a_assign (r := .sat _)) rfl rfl ?_ | refine r_pure (a_assign (r := .any)) rfl rfl ?_)
  refine arun_nil ?_
  (repeat (first | refine awp_seq ?_ | refine awp_block ?_ | refine awp_skip ?_ | refine awp_ret ?_ | refine awp_exit ?_ | refine thn_n ?_ | refine thn_r ?_ | refine thn_x ?_ | refine inb_n ?_ | refine inb_r ?_ | refine inb_x ?_ | refine inb_y rfl ?_))
  refine awp_text (by kernel_rfl) ?_
  (first | refine r_pure (a_move (r := .p _)) rfl rfl ?_ | refine r_pure (a_move (r := .row _)) rfl rfl ?_ | refine r_pure (a_move (r := .ref _ _)) rfl rfl ?_ | refine r_pure (a_move (r := .agg _)) rfl rfl ?_ | refine r_pure (a_move (r := .psl _ _ _ _)) rfl rfl ?_ | refine r_pure (a_move (r := .ptr _)) rfl rfl ?_ | refine r_pure (a_move (r := .tup _)) rfl rfl ?_ | refine r_pure (a_move (r := .fn _ _)) rfl rfl ?_ | refine r_pure (a_move (r := .mb _ _)) rfl rfl ?_ | refine r_pure (a_move (r := .mp _)) rfl rfl ?_ | refine r_pure (a_move (r := .sat _)) rfl rfl ?_ | refine r_pure (a_move (r := .any)) rfl rfl ?_)
  (first | refine r_pure (a_lenS Tryd.underlying101) rfl rfl ?_ | refine r_pure (a_lenNil Tryd.underlying101) rfl rfl ?_ | refine r_pure (a_lenV Tryd.underlying101) rfl rfl ?_ | refine r_run (a_lenR Tryd.underlying101) rfl rfl ⟨rfl, trivial⟩ ?_)
  (first | refine r_pure (a_move (r := .p _)) rfl rfl ?_ | refine r_pure (a_move (r := .row _)) rfl rfl ?_ | refine r_pure (a_move (r := .ref _ _)) rfl rfl ?_ | refine r_pure (a_move (r := .agg _)) rfl rfl ?_ | refine r_pure (a_move (r := .psl _ _ _ _)) rfl rfl ?_ | refine r_pure (a_move (r := .ptr _)) rfl rfl ?_ | refine r_pure (a_move (r := .tup _)) rfl rfl ?_ | refine r_pure (a_move (r := .fn _ _)) rfl rfl ?_ | refine r_pure (a_move (r := .mb _ _)) rfl rfl ?_ | refine r_pure (a_move (r := .mp _)) rfl rfl ?_ | refine r_pure (a_move (r := .sat _)) rfl rfl ?_ | refine r_pure (a_move (r := .any)) rfl rfl ?_)
  refine arun_nil ?_
  (repeat (first | refine awp_seq ?_ | refine awp_block ?_ | refine awp_skip ?_ | refine awp_ret ?_ | refine awp_exit ?_ | refine thn_n ?_ | refine thn_r ?_ | refine thn_x ?_ | refine inb_n ?_ | refine inb_r ?_ | refine inb_x ?_ | refine inb_y rfl ?_))
  refine awp_loopR (fun m st => ∃ k : Nat, m + k = N ∧ (∀ j, (hj : j < k) → (hj2 : j < xs.length) → n ≠ xs[j]) ∧ st = St.of [(0, .p (.sl N 1 (is xs))), (1, .p (.v (.int .i64 n))), (7, .p (.v (.int .i64 N))), (8, .p (.v (.int .i64 k)))] []) N ?_ ?_
  · refine ⟨_, re_of id _ _ ?_ ?_ rfl, 0, by omega, fun j hj => by omega, rfl⟩
    · (repeat (first | exact trivial | (refine ⟨⟨(by first | rfl | (simp; done) | (simp; omega)), rfl⟩, ?_⟩)))
    · exact trivial
  rintro m st ⟨k, hk, hb, rfl⟩
  (repeat (first | refine awp_seq ?_ | refine awp_block ?_ | refine awp_skip ?_ | refine awp_ret ?_ | refine awp_exit ?_ | refine thn_n ?_ | refine thn_r ?_ | refine thn_x ?_ | refine inb_n ?_ | refine inb_r ?_ | refine inb_x ?_ | refine inb_y rfl ?_))
  refine awp_text (by kernel_rfl) ?_
  (refine r_pure a_lss rfl rfl ?_)
  refine arun_nil ?_
  (repeat (first | refine awp_seq ?_ | refine awp_block ?_ | refine awp_skip ?_ | refine awp_ret ?_ | refine awp_exit ?_ | refine thn_n ?_ | refine thn_r ?_ | refine thn_x ?_ | refine inb_n ?_ | refine inb_r ?_ | refine inb_x ?_ | refine inb_y rfl ?_))
  refine awp_cond _ rfl (fun h => ?_) (fun h => ?_)
  · have hlt : k < N := by simpa using h
    clear h
    have hx : k < xs.length := by omega
    have hat := is_at hx
    (repeat (first | refine awp_seq ?_ | refine awp_block ?_ | refine awp_skip ?_ | refine awp_ret ?_ | refine awp_exit ?_ | refine thn_n ?_ | refine thn_r ?_ | refine thn_x ?_ | refine inb_n ?_ | refine inb_r ?_ | refine inb_x ?_ | refine inb_y rfl ?_))
    refine awp_text (by kernel_rfl) ?_
    (first | refine r_pure (a_move (r := .p _)) rfl rfl ?_ | refine r_pure (a_move (r := .row _)) rfl rfl ?_ | refine r_pure (a_move (r := .ref _ _)) rfl rfl ?_ | refine r_pure (a_move (r := .agg _)) rfl rfl ?_ | refine r_pure (a_move (r := .psl _ _ _ _)) rfl rfl ?_ | refine r_pure (a_move (r := .ptr _)) rfl rfl ?_ | refine r_pure (a_move (r := .tup _)) rfl rfl ?_ | refine r_pure (a_move (r := .fn _ _)) rfl rfl ?_ | refine r_pure (a_move (r := .mb _ _)) rfl rfl ?_ | refine r_pure (a_move (r := .mp _)) rfl rfl ?_ | refine r_pure (a_move (r := .sat _)) rfl rfl ?_ | refine r_pure (a_move (r := .any)) rfl rfl ?_)
    (first | refine r_pure (a_assign (r := .p _)) rfl rfl ?_ | refine r_pure (a_assign (r := .row _)) rfl rfl ?_ | refine r_pure (a_assign (r := .ref _ _)) rfl rfl ?_ | refine r_pure (a_assign (r := .agg _)) rfl rfl ?_ | refine r_pure (a_assign (r := .psl _ _ _ _)) rfl rfl ?_ | refine r_pure (a_assign (r := .ptr _)) rfl rfl ?_ | refine r_pure (a_assign (r := .tup _)) rfl rfl ?_ | refine r_pure (a_assign (r := .fn _ _)) rfl rfl ?_ | refine r_pure (a_assign (r := .mb _ _)) rfl rfl ?_ | refine r_pure (a_assign (r := .mp _)) rfl rfl ?_ | refine r_pure (a_assign (r := .sat _)) rfl rfl ?_ | refine r_pure (a_assign (r := .any)) rfl rfl ?_)
    refine arun_nil ?_
    (repeat (first | refine awp_seq ?_ | refine awp_block ?_ | refine awp_skip ?_ | refine awp_ret ?_ | refine awp_exit ?_ | refine thn_n ?_ | refine thn_r ?_ | refine thn_x ?_ | refine inb_n ?_ | refine inb_r ?_ | refine inb_x ?_ | refine inb_y rfl ?_))
    refine awp_text (by kernel_rfl) ?_
    (first | refine r_pure (a_move (r := .p _)) rfl rfl ?_ | refine r_pure (a_move (r := .row _)) rfl rfl ?_ | refine r_pure (a_move (r := .ref _ _)) rfl rfl ?_ | refine r_pure (a_move (r := .agg _)) rfl rfl ?_ | refine r_pure (a_move (r := .psl _ _ _ _)) rfl rfl ?_ | refine r_pure (a_move (r := .ptr _)) rfl rfl ?_ | refine r_pure (a_move (r := .tup _)) rfl rfl ?_ | refine r_pure (a_move (r := .fn _ _)) rfl rfl ?_ | refine r_pure (a_move (r := .mb _ _)) rfl rfl ?_ | refine r_pure (a_move (r := .mp _)) rfl rfl ?_ | refine r_pure (a_move (r := .sat _)) rfl rfl ?_ | refine r_pure (a_move (r := .any)) rfl rfl ?_)
    (first | refine r_pure (a_move (r := .p _)) rfl rfl ?_ | refine r_pure (a_move (r := .row _)) rfl rfl ?_ | refine r_pure (a_move (r := .ref _ _)) rfl rfl ?_ | refine r_pure (a_move (r := .agg _)) rfl rfl ?_ | refine r_pure (a_move (r := .psl _ _ _ _)) rfl rfl ?_ | refine r_pure (a_move (r := .ptr _)) rfl rfl ?_ | refine r_pure (a_move (r := .tup _)) rfl rfl ?_ | refine r_pure (a_move (r := .fn _ _)) rfl rfl ?_ | refine r_pure (a_move (r := .mb _ _)) rfl rfl ?_ | refine r_pure (a_move (r := .mp _)) rfl rfl ?_ | refine r_pure (a_move (r := .sat _)) rfl rfl ?_ | refine r_pure (a_move (r := .any)) rfl rfl ?_)
    (first | refine r_pure (a_move (r := .p _)) rfl rfl ?_ | refine r_pure (a_move (r := .row _)) rfl rfl ?_ | refine r_pure (a_move (r := .ref _ _)) rfl rfl ?_ | refine r_pure (a_move (r := .agg _)) rfl rfl ?_ | refine r_pure (a_move (r := .psl _ _ _ _)) rfl rfl ?_ | refine r_pure (a_move (r := .ptr _)) rfl rfl ?_ | refine r_pure (a_move (r := .tup _)) rfl rfl ?_ | refine r_pure (a_move (r := .fn _ _)) rfl rfl ?_ | refine r_pure (a_move (r := .mb _ _)) rfl rfl ?_ | refine r_pure (a_move (r := .mp _)) rfl rfl ?_ | refine r_pure (a_move (r := .sat _)) rfl rfl ?_ | refine r_pure (a_move (r := .any)) rfl rfl ?_)
    (first | refine r_pure (a_indexAddrS Tryd.underlying101 sz3 (by omega) (by omega) rfl) rfl rfl ?_ | refine r_run (a_indexAddrR Tryd.underlying101 sz3 (by omega) (by omega) (by first | (simp only [Int.toNat_natCast, Nat.mul_one, Nat.zero_add]; rfl) | rfl)) rfl rfl ⟨rfl, trivial⟩ ?_ | refine r_pure (a_indexAddrV Tryd.underlying101 sz3 (by omega) (by omega) (by first | (simp only [Int.toNat_natCast, Nat.mul_one, Nat.zero_add]; rfl) | rfl)) rfl rfl ?_)
    (first | refine r_run (a_load1 Tryd.underlying3 rfl (by first | rfl | assumption)) rfl rfl ⟨rfl, trivial⟩ ?_ | refine r_run (a_load1r Tryd.underlying3 rfl (by first | rfl | assumption | ((try simp only [List.getElem?_drop, List.getElem?_take, Int.toNat_natCast, Nat.mul_one, Nat.add_zero, Nat.zero_add]); first | assumption | rfl))) rfl rfl ⟨rfl, trivial⟩ ?_ | refine r_pure (a_load1p Tryd.underlying3 rfl (by first | rfl | assumption | ((try simp only [List.getElem?_drop, List.getElem?_take, Int.toNat_natCast, Nat.mul_one, Nat.add_zero, Nat.zero_add]); first | assumption | rfl))) rfl rfl ?_)
    (refine r_pure a_eql rfl rfl ?_)
    refine arun_nil ?_
    (repeat (first | refine awp_seq ?_ | refine awp_block ?_ | refine awp_skip ?_ | refine awp_ret ?_ | refine awp_exit ?_ | refine thn_n ?_ | refine thn_r ?_ | refine thn_x ?_ | refine inb_n ?_ | refine inb_r ?_ | refine inb_x ?_ | refine inb_y rfl ?_))
    refine awp_cond _ rfl (fun h => ?_) (fun h => ?_)
    · have he : n = xs[k] := by simpa using h
      (repeat (first | refine awp_seq ?_ | refine awp_block ?_ | refine awp_skip ?_ | refine awp_ret ?_ | refine awp_exit ?_ | refine thn_n ?_ | refine thn_r ?_ | refine thn_x ?_ | refine inb_n ?_ | refine inb_r ?_ | refine inb_x ?_ | refine inb_y rfl ?_))
      refine awp_text (by kernel_rfl) ?_
      (first | refine r_pure (a_move (r := .p _)) rfl rfl ?_ | refine r_pure (a_move (r := .row _)) rfl rfl ?_ | refine r_pure (a_move (r := .ref _ _)) rfl rfl ?_ | refine r_pure (a_move (r := .agg _)) rfl rfl ?_ | refine r_pure (a_move (r := .psl _ _ _ _)) rfl rfl ?_ | refine r_pure (a_move (r := .ptr _)) rfl rfl ?_ | refine r_pure (a_move (r := .tup _)) rfl rfl ?_ | refine r_pure (a_move (r := .fn _ _)) rfl rfl ?_ | refine r_pure (a_move (r := .mb _ _)) rfl rfl ?_ | refine r_pure (a_move (r := .mp _)) rfl rfl ?_ | refine r_pure (a_move (r := .sat _)) rfl rfl ?_ | refine r_pure (a_move (r := .any)) rfl rfl ?_)
      (first | refine r_pure (a_assign (r := .p _)) rfl rfl ?_ | refine r_pure (a_assign (r := .row _)) rfl rfl ?_ | refine r_pure (a_assign (r := .ref _ _)) rfl rfl ?_ | refine r_pure (a_assign (r := .agg _)) rfl rfl ?_ | refine r_pure (a_assign (r := .psl _ _ _ _)) rfl rfl ?_ | refine r_pure (a_assign (r := .ptr _)) rfl rfl ?_ | refine r_pure (a_assign (r := .tup _)) rfl rfl ?_ | refine r_pure (a_assign (r := .fn _ _)) rfl rfl ?_ | refine r_pure (a_assign (r := .mb _ _)) rfl rfl ?_ | refine r_pure (a_assign (r := .mp _)) rfl rfl ?_ | refine r_pure (a_assign (r := .sat _)) rfl rfl ?_ | refine r_pure (a_assign (r := .any)) rfl rfl ?_)
      refine arun_nil ?_
      (repeat (first | refine awp_seq ?_ | refine awp_block ?_ | refine awp_skip ?_ | refine awp_ret ?_ | refine awp_exit ?_ | refine thn_n ?_ | refine thn_r ?_ | refine thn_x ?_ | refine inb_n ?_ | refine inb_r ?_ | refine inb_x ?_ | refine inb_y rfl ?_))
      refine ⟨(by first | exact .inl rfl | exact .inr rfl), _, (fun o => o), (.tmp _ _ _ _ rfl .nil), ?_, rfl, ?_, rfl⟩
      · rw [idxI_at hx he fun j hj => hb j hj (by omega)]; kernel_rfl
      · exact trivial
    · have he : n ≠ xs[k] := by simpa using h
      (repeat (first | refine awp_seq ?_ | refine awp_block ?_ | refine awp_skip ?_ | refine awp_ret ?_ | refine awp_exit ?_ | refine thn_n ?_ | refine thn_r ?_ | refine thn_x ?_ | refine inb_n ?_ | refine inb_r ?_ | refine inb_x ?_ | refine inb_y rfl ?_))
      refine awp_text (by kernel_rfl) ?_
      (refine r_pure (a_add (by first | exact IntWalk.i64_in _ (by omega) | rfl)) rfl rfl ?_)
      (first | refine r_pure (a_move (r := .p _)) rfl rfl ?_ | refine r_pure (a_move (r := .row _)) rfl rfl ?_ | refine r_pure (a_move (r := .ref _ _)) rfl rfl ?_ | refine r_pure (a_move (r := .agg _)) rfl rfl ?_ | refine r_pure (a_move (r := .psl _ _ _ _)) rfl rfl ?_ | refine r_pure (a_move (r := .ptr _)) rfl rfl ?_ | refine r_pure (a_move (r := .tup _)) rfl rfl ?_ | refine r_pure (a_move (r := .fn _ _)) rfl rfl ?_ | refine r_pure (a_move (r := .mb _ _)) rfl rfl ?_ | refine r_pure (a_move (r := .mp _)) rfl rfl ?_ | refine r_pure (a_move (r := .sat _)) rfl rfl ?_ | refine r_pure (a_move (r := .any)) rfl rfl ?_)
      refine arun_nil ?_
      (repeat (first | refine awp_seq ?_ | refine awp_block ?_ | refine awp_skip ?_ | refine awp_ret ?_ | refine awp_exit ?_ | refine thn_n ?_ | refine thn_r ?_ | refine thn_x ?_ | refine inb_n ?_ | refine inb_r ?_ | refine inb_x ?_ | refine inb_y rfl ?_))
      refine ⟨m - 1, by omega, _, re_of id _ _ ?_ ?_ rfl, k + 1, by omega, fun j hj hj2 => ?_, rfl⟩
      · (repeat (first | exact trivial | (refine ⟨⟨(by first | rfl | (simp; done) | (simp; omega)), rfl⟩, ?_⟩)))
      · exact trivial
      · by_cases e : j = k
        · subst e; exact he
        · exact hb j (by omega) hj2
  · have hge : ¬ k < N := by simpa using h
    (repeat (first | refine awp_seq ?_ | refine awp_block ?_ | refine awp_skip ?_ | refine awp_ret ?_ | refine awp_exit ?_ | refine thn_n ?_ | refine thn_r ?_ | refine thn_x ?_ | refine inb_n ?_ | refine inb_r ?_ | refine inb_x ?_ | refine inb_y rfl ?_))
    refine awp_text (by kernel_rfl) ?_
    (first | refine r_pure (a_assign (r := .p _)) rfl rfl ?_ | refine r_pure (a_assign (r := .row _)) rfl rfl ?_ | refine r_pure (a_assign (r := .ref _ _)) rfl rfl ?_ | refine r_pure (a_assign (r := .agg _)) rfl rfl ?_ | refine r_pure (a_assign (r := .psl _ _ _ _)) rfl rfl ?_ | refine r_pure (a_assign (r := .ptr _)) rfl rfl ?_ | refine r_pure (a_assign (r := .tup _)) rfl rfl ?_ | refine r_pure (a_assign (r := .fn _ _)) rfl rfl ?_ | refine r_pure (a_assign (r := .mb _ _)) rfl rfl ?_ | refine r_pure (a_assign (r := .mp _)) rfl rfl ?_ | refine r_pure (a_assign (r := .sat _)) rfl rfl ?_ | refine r_pure (a_assign (r := .any)) rfl rfl ?_)
    refine arun_nil ?_
    (repeat (first | refine awp_seq ?_ | refine awp_block ?_ | refine awp_skip ?_ | refine awp_ret ?_ | refine awp_exit ?_ | refine thn_n ?_ | refine thn_r ?_ | refine thn_x ?_ | refine inb_n ?_ | refine inb_r ?_ | refine inb_x ?_ | refine inb_y rfl ?_))
    refine ⟨(by first | exact .inl rfl | exact .inr rfl), _, (fun o => o), (.tmp _ _ _ _ rfl .nil), ?_, rfl, ?_, rfl⟩
    · rw [idxI_none fun j hj => hb j (by omega) hj]; kernel_rfl
    · exact trivial
end Go.Proofs.YtcjnecmgificmaaDoor
