/- The laws' sameBytes, over data. -/
import Derived.Test.YtfnipohlkifkhaaMa3
import Derived.Test.YtfnipohlkifkhaaTab
namespace Go.Proofs.Ytfnipohlkifkhaa
open Go.RowKit Go.Sort
set_option linter.unusedVariables false
set_option linter.unusedSimpArgs false
set_option maxRecDepth 100000

theorem same_s (n m : Nat) (xs ys : List Int) : Fn Try.prog 49 [.p (.sl n 1 (bs xs)), .p (.sl m 1 (bs ys))] (.p (.v (.bool (decide (strOfNums xs = strOfNums ys))))) [] := by
  refine fn_intro Try.func49 rfl (Nat.le_of_ble_eq_true rfl) fun w0 A => ?_
  (repeat (first | refine awp_seq ?_ | refine awp_block ?_ | refine awp_skip ?_ | refine awp_ret ?_ | refine awp_exit ?_ | refine thn_n ?_ | refine thn_r ?_ | refine thn_x ?_ | refine inb_n ?_ | refine inb_r ?_ | refine inb_x ?_ | refine inb_y rfl ?_))
  refine awp_text (by kernel_rfl) ?_
  (first | refine r_pure (a_assign (r := .p _)) rfl rfl ?_ | refine r_pure (a_assign (r := .row _)) rfl rfl ?_ | refine r_pure (a_assign (r := .ref _ _)) rfl rfl ?_ | refine r_pure (a_assign (r := .agg _)) rfl rfl ?_ | refine r_pure (a_assign (r := .psl _ _ _ _)) rfl rfl ?_ | refine r_pure (a_assign (r := .ptr _)) rfl rfl ?_ | refine r_pure (a_assign (r := .tup _)) rfl rfl ?_ | refine r_pure (a_assign (r := .fn _ _)) rfl rfl ?_ | refine r_pure (a_assign (r := .mb _ _)) rfl rfl ?_ | refine r_pure (a_assign (r := .any)) rfl rfl ?_)
  refine arun_nil ?_
  (repeat (first | refine awp_seq ?_ | refine awp_block ?_ | refine awp_skip ?_ | refine awp_ret ?_ | refine awp_exit ?_ | refine thn_n ?_ | refine thn_r ?_ | refine thn_x ?_ | refine inb_n ?_ | refine inb_r ?_ | refine inb_x ?_ | refine inb_y rfl ?_))
  refine awp_text (by kernel_rfl) ?_
  (first | refine r_pure (a_move (r := .p _)) rfl rfl ?_ | refine r_pure (a_move (r := .row _)) rfl rfl ?_ | refine r_pure (a_move (r := .ref _ _)) rfl rfl ?_ | refine r_pure (a_move (r := .agg _)) rfl rfl ?_ | refine r_pure (a_move (r := .psl _ _ _ _)) rfl rfl ?_ | refine r_pure (a_move (r := .ptr _)) rfl rfl ?_ | refine r_pure (a_move (r := .tup _)) rfl rfl ?_ | refine r_pure (a_move (r := .fn _ _)) rfl rfl ?_ | refine r_pure (a_move (r := .mb _ _)) rfl rfl ?_ | refine r_pure (a_move (r := .any)) rfl rfl ?_)
  (first | refine r_run (a_b2s Try.underlying42 Try.underlying5 Try.underlying9 (src_row) rfl rfl) rfl rfl ⟨rfl, trivial⟩ ?_ | refine r_run (a_b2s Try.underlying42 Try.underlying5 Try.underlying9 (src_sl) rfl rfl) rfl rfl trivial ?_ | refine r_run (a_b2s Try.underlying42 Try.underlying5 Try.underlying9 (src_psl (by omega) rfl) rfl rfl) rfl rfl ⟨rfl, trivial⟩ ?_ | refine r_run (a_b2s Try.underlying42 Try.underlying5 Try.underlying9 (src_box rfl (Nat.le_of_ble_eq_true rfl) rfl) rfl rfl) rfl rfl ⟨rfl, trivial⟩ ?_ | refine r_run (a_b2s (xs := []) Try.underlying42 Try.underlying5 Try.underlying9 (src_nil (size := 1)) rfl rfl) rfl rfl trivial ?_)
  (first | refine r_pure (a_move (r := .p _)) rfl rfl ?_ | refine r_pure (a_move (r := .row _)) rfl rfl ?_ | refine r_pure (a_move (r := .ref _ _)) rfl rfl ?_ | refine r_pure (a_move (r := .agg _)) rfl rfl ?_ | refine r_pure (a_move (r := .psl _ _ _ _)) rfl rfl ?_ | refine r_pure (a_move (r := .ptr _)) rfl rfl ?_ | refine r_pure (a_move (r := .tup _)) rfl rfl ?_ | refine r_pure (a_move (r := .fn _ _)) rfl rfl ?_ | refine r_pure (a_move (r := .mb _ _)) rfl rfl ?_ | refine r_pure (a_move (r := .any)) rfl rfl ?_)
  (first | refine r_run (a_b2s Try.underlying42 Try.underlying5 Try.underlying9 (src_row) rfl rfl) rfl rfl ⟨rfl, trivial⟩ ?_ | refine r_run (a_b2s Try.underlying42 Try.underlying5 Try.underlying9 (src_sl) rfl rfl) rfl rfl trivial ?_ | refine r_run (a_b2s Try.underlying42 Try.underlying5 Try.underlying9 (src_psl (by omega) rfl) rfl rfl) rfl rfl ⟨rfl, trivial⟩ ?_ | refine r_run (a_b2s Try.underlying42 Try.underlying5 Try.underlying9 (src_box rfl (Nat.le_of_ble_eq_true rfl) rfl) rfl rfl) rfl rfl ⟨rfl, trivial⟩ ?_ | refine r_run (a_b2s (xs := []) Try.underlying42 Try.underlying5 Try.underlying9 (src_nil (size := 1)) rfl rfl) rfl rfl trivial ?_)
  (refine r_pure a_seql rfl rfl ?_)
  (first | refine r_pure (a_assign (r := .p _)) rfl rfl ?_ | refine r_pure (a_assign (r := .row _)) rfl rfl ?_ | refine r_pure (a_assign (r := .ref _ _)) rfl rfl ?_ | refine r_pure (a_assign (r := .agg _)) rfl rfl ?_ | refine r_pure (a_assign (r := .psl _ _ _ _)) rfl rfl ?_ | refine r_pure (a_assign (r := .ptr _)) rfl rfl ?_ | refine r_pure (a_assign (r := .tup _)) rfl rfl ?_ | refine r_pure (a_assign (r := .fn _ _)) rfl rfl ?_ | refine r_pure (a_assign (r := .mb _ _)) rfl rfl ?_ | refine r_pure (a_assign (r := .any)) rfl rfl ?_)
  refine arun_nil ?_
  (repeat (first | refine awp_seq ?_ | refine awp_block ?_ | refine awp_skip ?_ | refine awp_ret ?_ | refine awp_exit ?_ | refine thn_n ?_ | refine thn_r ?_ | refine thn_x ?_ | refine inb_n ?_ | refine inb_r ?_ | refine inb_x ?_ | refine inb_y rfl ?_))
  refine ⟨(by first | exact .inl rfl | exact .inr rfl), _, (fun o => o), (.tmp _ _ _ _ rfl .nil), ?_, rfl, ?_, rfl⟩
  · exact rfl
  · exact trivial
theorem same_eq (n m : Nat) (xs : List Int) : Fn Try.prog 49 [.p (.sl n 1 (bs xs)), .p (.sl m 1 (bs xs))] (.p (.v (.bool true))) [] := by
  have h := same_s n m xs xs
  rwa [show decide (strOfNums xs = strOfNums xs) = true by simp] at h
theorem same_nil : Fn Try.prog 49 [.p (.v (.slice none 0 0)), .p (.v (.slice none 0 0))] (.p (.v (.bool true))) [] := by
  refine fn_intro Try.func49 rfl (Nat.le_of_ble_eq_true rfl) fun w0 A => ?_
  (repeat (first | refine awp_seq ?_ | refine awp_block ?_ | refine awp_skip ?_ | refine awp_ret ?_ | refine awp_exit ?_ | refine thn_n ?_ | refine thn_r ?_ | refine thn_x ?_ | refine inb_n ?_ | refine inb_r ?_ | refine inb_x ?_ | refine inb_y rfl ?_))
  refine awp_text (by kernel_rfl) ?_
  (first | refine r_pure (a_assign (r := .p _)) rfl rfl ?_ | refine r_pure (a_assign (r := .row _)) rfl rfl ?_ | refine r_pure (a_assign (r := .ref _ _)) rfl rfl ?_ | refine r_pure (a_assign (r := .agg _)) rfl rfl ?_ | refine r_pure (a_assign (r := .psl _ _ _ _)) rfl rfl ?_ | refine r_pure (a_assign (r := .ptr _)) rfl rfl ?_ | refine r_pure (a_assign (r := .tup _)) rfl rfl ?_ | refine r_pure (a_assign (r := .fn _ _)) rfl rfl ?_ | refine r_pure (a_assign (r := .mb _ _)) rfl rfl ?_ | refine r_pure (a_assign (r := .any)) rfl rfl ?_)
  refine arun_nil ?_
  (repeat (first | refine awp_seq ?_ | refine awp_block ?_ | refine awp_skip ?_ | refine awp_ret ?_ | refine awp_exit ?_ | refine thn_n ?_ | refine thn_r ?_ | refine thn_x ?_ | refine inb_n ?_ | refine inb_r ?_ | refine inb_x ?_ | refine inb_y rfl ?_))
  refine awp_text (by kernel_rfl) ?_
  (first | refine r_pure (a_move (r := .p _)) rfl rfl ?_ | refine r_pure (a_move (r := .row _)) rfl rfl ?_ | refine r_pure (a_move (r := .ref _ _)) rfl rfl ?_ | refine r_pure (a_move (r := .agg _)) rfl rfl ?_ | refine r_pure (a_move (r := .psl _ _ _ _)) rfl rfl ?_ | refine r_pure (a_move (r := .ptr _)) rfl rfl ?_ | refine r_pure (a_move (r := .tup _)) rfl rfl ?_ | refine r_pure (a_move (r := .fn _ _)) rfl rfl ?_ | refine r_pure (a_move (r := .mb _ _)) rfl rfl ?_ | refine r_pure (a_move (r := .any)) rfl rfl ?_)
  (first | refine r_run (a_b2s Try.underlying42 Try.underlying5 Try.underlying9 (src_row) rfl rfl) rfl rfl ⟨rfl, trivial⟩ ?_ | refine r_run (a_b2s Try.underlying42 Try.underlying5 Try.underlying9 (src_sl) rfl rfl) rfl rfl trivial ?_ | refine r_run (a_b2s Try.underlying42 Try.underlying5 Try.underlying9 (src_psl (by omega) rfl) rfl rfl) rfl rfl ⟨rfl, trivial⟩ ?_ | refine r_run (a_b2s Try.underlying42 Try.underlying5 Try.underlying9 (src_box rfl (Nat.le_of_ble_eq_true rfl) rfl) rfl rfl) rfl rfl ⟨rfl, trivial⟩ ?_ | refine r_run (a_b2s (xs := []) Try.underlying42 Try.underlying5 Try.underlying9 (src_nil (size := 1)) rfl rfl) rfl rfl trivial ?_)
  (first | refine r_pure (a_move (r := .p _)) rfl rfl ?_ | refine r_pure (a_move (r := .row _)) rfl rfl ?_ | refine r_pure (a_move (r := .ref _ _)) rfl rfl ?_ | refine r_pure (a_move (r := .agg _)) rfl rfl ?_ | refine r_pure (a_move (r := .psl _ _ _ _)) rfl rfl ?_ | refine r_pure (a_move (r := .ptr _)) rfl rfl ?_ | refine r_pure (a_move (r := .tup _)) rfl rfl ?_ | refine r_pure (a_move (r := .fn _ _)) rfl rfl ?_ | refine r_pure (a_move (r := .mb _ _)) rfl rfl ?_ | refine r_pure (a_move (r := .any)) rfl rfl ?_)
  (first | refine r_run (a_b2s Try.underlying42 Try.underlying5 Try.underlying9 (src_row) rfl rfl) rfl rfl ⟨rfl, trivial⟩ ?_ | refine r_run (a_b2s Try.underlying42 Try.underlying5 Try.underlying9 (src_sl) rfl rfl) rfl rfl trivial ?_ | refine r_run (a_b2s Try.underlying42 Try.underlying5 Try.underlying9 (src_psl (by omega) rfl) rfl rfl) rfl rfl ⟨rfl, trivial⟩ ?_ | refine r_run (a_b2s Try.underlying42 Try.underlying5 Try.underlying9 (src_box rfl (Nat.le_of_ble_eq_true rfl) rfl) rfl rfl) rfl rfl ⟨rfl, trivial⟩ ?_ | refine r_run (a_b2s (xs := []) Try.underlying42 Try.underlying5 Try.underlying9 (src_nil (size := 1)) rfl rfl) rfl rfl trivial ?_)
  (refine r_pure a_seql rfl rfl ?_)
  (first | refine r_pure (a_assign (r := .p _)) rfl rfl ?_ | refine r_pure (a_assign (r := .row _)) rfl rfl ?_ | refine r_pure (a_assign (r := .ref _ _)) rfl rfl ?_ | refine r_pure (a_assign (r := .agg _)) rfl rfl ?_ | refine r_pure (a_assign (r := .psl _ _ _ _)) rfl rfl ?_ | refine r_pure (a_assign (r := .ptr _)) rfl rfl ?_ | refine r_pure (a_assign (r := .tup _)) rfl rfl ?_ | refine r_pure (a_assign (r := .fn _ _)) rfl rfl ?_ | refine r_pure (a_assign (r := .mb _ _)) rfl rfl ?_ | refine r_pure (a_assign (r := .any)) rfl rfl ?_)
  refine arun_nil ?_
  (repeat (first | refine awp_seq ?_ | refine awp_block ?_ | refine awp_skip ?_ | refine awp_ret ?_ | refine awp_exit ?_ | refine thn_n ?_ | refine thn_r ?_ | refine thn_x ?_ | refine inb_n ?_ | refine inb_r ?_ | refine inb_x ?_ | refine inb_y rfl ?_))
  refine ⟨(by first | exact .inl rfl | exact .inr rfl), _, (fun o => o), (.tmp _ _ _ _ rfl .nil), ?_, rfl, ?_, rfl⟩
  · exact rfl
  · exact trivial
end Go.Proofs.Ytfnipohlkifkhaa
