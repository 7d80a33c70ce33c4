/- The laws' sameBytes, over data. -/
import Derived.Test.YtcjnecmgificmaaDoorMa3
import Derived.Test.YtcjnecmgificmaaDoorTab
namespace Go.Proofs.YtcjnecmgificmaaDoor
open Go.RowKit Go.Sort
set_option linter.unusedVariables false
set_option linter.unusedSimpArgs false
set_option maxRecDepth 100000

theorem same_s (n m : Nat) (xs ys : List Int) : Fn Tryd.prog 89 [.p (.sl n 1 (bs xs)), .p (.sl m 1 (bs ys))] (.p (.v (.bool (decide (strOfNums xs = strOfNums ys))))) [] := by
  refine fn_intro Tryd.func89 rfl (Nat.le_of_ble_eq_true rfl) fun w0 A => ?_
  refine awp_seq ?_
  refine awp_text (by kernel_rfl) ?_
  (refine r_pure (a_assign (r := .p _)) rfl rfl ?_)
  refine arun_nil ?_
  refine awp_seq ?_
  refine awp_text (by kernel_rfl) ?_
  (refine r_pure (a_move (r := .p _)) rfl rfl ?_)
  (refine r_run (a_b2s Tryd.underlying95 Tryd.underlying5 Tryd.underlying9 (src_sl) rfl rfl) rfl rfl trivial ?_)
  (refine r_pure (a_move (r := .p _)) rfl rfl ?_)
  (refine r_run (a_b2s Tryd.underlying95 Tryd.underlying5 Tryd.underlying9 (src_sl) rfl rfl) rfl rfl trivial ?_)
  (refine r_pure a_seql rfl rfl ?_)
  (refine r_pure (a_assign (r := .p _)) rfl rfl ?_)
  refine arun_nil ?_
  refine awp_ret ?_
  refine ⟨(by first | exact .inl rfl | exact .inr rfl), _, (fun o => o), (.tmp _ _ _ _ rfl .nil), ?_, rfl, ?_, rfl⟩
  · exact rfl
  · exact trivial
theorem same_eq (n m : Nat) (xs : List Int) : Fn Tryd.prog 89 [.p (.sl n 1 (bs xs)), .p (.sl m 1 (bs xs))] (.p (.v (.bool true))) [] := by
  have h := same_s n m xs xs
  rwa [show decide (strOfNums xs = strOfNums xs) = true by simp] at h
theorem same_nil : Fn Tryd.prog 89 [.p (.v (.slice none 0 0)), .p (.v (.slice none 0 0))] (.p (.v (.bool true))) [] := by
  refine fn_intro Tryd.func89 rfl (Nat.le_of_ble_eq_true rfl) fun w0 A => ?_
  refine awp_seq ?_
  refine awp_text (by kernel_rfl) ?_
  (refine r_pure (a_assign (r := .p _)) rfl rfl ?_)
  refine arun_nil ?_
  refine awp_seq ?_
  refine awp_text (by kernel_rfl) ?_
  (refine r_pure (a_move (r := .p _)) rfl rfl ?_)
  (refine r_run (a_b2s (xs := []) Tryd.underlying95 Tryd.underlying5 Tryd.underlying9 (src_nil (size := 1)) rfl rfl) rfl rfl trivial ?_)
  (refine r_pure (a_move (r := .p _)) rfl rfl ?_)
  (refine r_run (a_b2s (xs := []) Tryd.underlying95 Tryd.underlying5 Tryd.underlying9 (src_nil (size := 1)) rfl rfl) rfl rfl trivial ?_)
  (refine r_pure a_seql rfl rfl ?_)
  (refine r_pure (a_assign (r := .p _)) rfl rfl ?_)
  refine arun_nil ?_
  refine awp_ret ?_
  refine ⟨(by first | exact .inl rfl | exact .inr rfl), _, (fun o => o), (.tmp _ _ _ _ rfl .nil), ?_, rfl, ?_, rfl⟩
  · exact rfl
  · exact trivial
end Go.Proofs.YtcjnecmgificmaaDoor
