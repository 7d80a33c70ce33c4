/- strings.Builder: copyCheck, WriteByte and String, over data. -/
import Derived.Test.YtmdkfhmmhiofbaaMa4
namespace Go.Proofs.Ytmdkfhmmhiofbaa
open Go.RowKit Go.Sort
set_option linter.unusedVariables false
set_option linter.unusedSimpArgs false
set_option maxRecDepth 100000

/-- a builder that nothing was written to -/
def bdNew : AObj := .box 59 [.p (.v (.pointer none)), .p (.v (.slice none 0 0))]
/-- a builder whose bytes stand in a row -/
def bdAt (o r : Nat) : AObj := .box 59 [.ref o 0, .row r]

theorem check_new (B : AV) : FnO Try.prog 48 [.ref 1 0] [(1, .live (.box 59 [.p (.v (.pointer none)), B]))] [(1, .live (.box 59 [.ref 1 0, B]))] (.tup []) := by
  refine fnO_intro Try.func48 rfl (Nat.le_of_ble_eq_true rfl) fun w0 A heap => ?_
  refine awp_seq ?_
  refine awp_text (by kernel_rfl) ?_
  (refine r_pure (a_move (r := .ref _ _)) rfl rfl ?_)
  (refine r_pure a_nilRef rfl rfl ?_)
  (refine r_pure (b_fieldAddr fi59_0 rfl) rfl rfl ?_)
  (refine r_run (a_load1 Try.underlying57 rfl (by first | rfl | assumption)) rfl rfl ⟨rfl, trivial⟩ ?_)
  (refine r_pure (a_peqNN Try.underlying57) rfl rfl ?_)
  refine arun_nil ?_
  refine thn_n ?_
  refine awp_cond _ rfl (fun h => ?_) (fun h => ?_)
  · skip
    refine awp_text (by kernel_rfl) ?_
    (refine r_pure (a_move (r := .ref _ _)) rfl rfl ?_)
    (refine r_pure (a_move (r := .ref _ _)) rfl rfl ?_)
    (refine r_run (a_toUnsafe Try.underlying57 Try.underlying88 sz59) rfl rfl ⟨rfl, trivial⟩ ?_)
    (refine r_pure (a_noEscape Try.func60 (by kernel_rfl) rfl rfl rfl) rfl rfl ?_)
    (refine r_run (a_fromUnsafe Try.underlying88 Try.underlying57 sz59 (by kernel_rfl)) rfl rfl ⟨rfl, trivial⟩ ?_)
    (refine r_pure a_nilRef rfl rfl ?_)
    (refine r_pure (b_fieldAddr fi59_0 rfl) rfl rfl ?_)
    (refine r_run (a_store (Y := .ref _ _) sz57 rfl (by first | exact Nat.eq_of_beq_eq_true rfl | (simp only [AV.cells, List.length_map]; first | assumption | omega)) (by first | exact Nat.le_of_ble_eq_true rfl | omega | (simp only [AV.cells, List.length_map]; omega)) (by first | (simp only [setR, AV.cells, List.take_succ_cons, List.take_zero, List.drop_succ_cons, List.drop_zero, List.drop_nil, List.take_nil, List.nil_append, List.cons_append, List.append_nil, List.length_cons, List.length_nil, Nat.reduceAdd, Nat.zero_add, Nat.add_zero]; rfl) | rfl)) rfl rfl ⟨rfl, trivial⟩ ?_)
    refine arun_nil ?_
    skip
    refine ⟨(by first | exact .inl rfl | exact .inr rfl), ⟨_, .nil, ?_⟩, ?_, ?_⟩
    · exact rfl
    · (repeat (first | exact trivial | refine ⟨rfl, ?_⟩))
    · (intro o ho; simp only [List.any_cons, List.any_nil, Bool.or_false, Bool.or_eq_false_iff] at ho; simp [St.put, St.upd, updL, ho])
  · cases h
theorem check_used (B : AV) : FnO Try.prog 48 [.ref 1 0] [(1, .live (.box 59 [.ref 1 0, B]))] [(1, .live (.box 59 [.ref 1 0, B]))] (.tup []) := by
  refine fnO_intro Try.func48 rfl (Nat.le_of_ble_eq_true rfl) fun w0 A heap => ?_
  refine awp_seq ?_
  refine awp_text (by kernel_rfl) ?_
  (refine r_pure (a_move (r := .ref _ _)) rfl rfl ?_)
  (refine r_pure a_nilRef rfl rfl ?_)
  (refine r_pure (b_fieldAddr fi59_0 rfl) rfl rfl ?_)
  (refine r_run (a_load1 Try.underlying57 rfl (by first | rfl | assumption)) rfl rfl ⟨rfl, trivial⟩ ?_)
  (refine r_pure (a_peqRN Try.underlying57) rfl rfl ?_)
  refine arun_nil ?_
  refine thn_n ?_
  refine awp_cond _ rfl (fun h => ?_) (fun h => ?_)
  · cases h
  · refine awp_seq ?_
    refine awp_text (by kernel_rfl) ?_
    (refine r_pure (a_move (r := .ref _ _)) rfl rfl ?_)
    (refine r_pure a_nilRef rfl rfl ?_)
    (refine r_pure (b_fieldAddr fi59_0 rfl) rfl rfl ?_)
    (refine r_run (a_load1 Try.underlying57 rfl (by first | rfl | assumption)) rfl rfl ⟨rfl, trivial⟩ ?_)
    (refine r_pure (a_move (r := .ref _ _)) rfl rfl ?_)
    (refine r_pure (a_pneRR Try.underlying57 sz59) rfl rfl ?_)
    refine arun_nil ?_
    refine thn_n ?_
    refine awp_cond _ rfl (fun h => ?_) (fun h => ?_)
    · cases h
    · refine awp_skip ?_
      refine ⟨(by first | exact .inl rfl | exact .inr rfl), ⟨_, .nil, ?_⟩, ?_, ?_⟩
      · exact rfl
      · (repeat (first | exact trivial | refine ⟨rfl, ?_⟩))
      · (intro o ho; simp only [List.any_cons, List.any_nil, Bool.or_false, Bool.or_eq_false_iff] at ho; simp [St.put, St.upd, updL, ho])

theorem writeByte_new (c : Int) : FnO Try.prog 30 [.ref 1 0, .p (.v (.int .u8 c))] [(1, .live bdNew), (13, .un), (14, .un)]
    [(1, .live (bdAt 1 14)), (13, .dead), (14, .live (.row 5 1 1 (bs [c])))] (.p (.v .nilIface)) := by
  refine fnO_intro Try.func30 rfl (Nat.le_of_ble_eq_true rfl) fun w0 A heap => ?_
  have hck := check_new (.p (.v (.slice none 0 0)))
  unfold bdNew bdAt
  refine awp_seq ?_
  refine awp_text (by kernel_rfl) ?_
  (refine r_pure (a_assign (r := .p _)) rfl rfl ?_)
  refine arun_nil ?_
  refine awp_seq ?_
  refine awp_text (by kernel_rfl) ?_
  (refine r_pure (a_move (r := .ref _ _)) rfl rfl ?_)
  (refine r_callO0 (hck) rfl rfl Try.func48 rfl rfl (by repeat (first | exact trivial | refine ⟨rfl, ?_⟩)) rfl ?_)
  refine arun_nil ?_
  refine awp_seq ?_
  refine awp_text (by kernel_rfl) ?_
  (refine r_pure (a_move (r := .ref _ _)) rfl rfl ?_)
  (refine r_pure (a_move (r := .ref _ _)) rfl rfl ?_)
  (refine r_pure a_nilRef rfl rfl ?_)
  (refine r_pure (b_fieldAddr fi59_1 rfl) rfl rfl ?_)
  (refine r_run (a_load1 Try.underlying22 rfl (by first | rfl | assumption)) rfl rfl ⟨rfl, trivial⟩ ?_)
  (refine r_pure (a_move (r := .p _)) rfl rfl ?_)
  (refine r_run (xs := [.p (.v (.int .u8 c))]) (a_buildSlice (es := [.p (.v (.int .u8 c))]) (cs := [.v (.int .u8 c)]) 13 Try.underlying22 sz5 zc5 (Nat.le_of_ble_eq_true rfl) (Nat.le_of_ble_eq_true rfl) rfl (by kernel_rfl) (by kernel_rfl) (by kernel_rfl) (Nat.le_of_ble_eq_true rfl)) (by first | rfl | kernel_rfl) rfl ⟨rfl, trivial⟩ ?_)
  (refine r_run (a_appendNil 14 Try.underlying22 eo5 (src_row) (by simp only [maxLen]; omega) (by omega)) rfl rfl ⟨rfl, rfl, trivial⟩ ?_)
  (refine r_pure a_nilRef rfl rfl ?_)
  (refine r_pure (b_fieldAddr fi59_1 rfl) rfl rfl ?_)
  (refine r_run (a_store (Y := .row _) sz22 rfl (by first | exact Nat.eq_of_beq_eq_true rfl | (simp only [AV.cells, List.length_map]; first | assumption | omega)) (by first | exact Nat.le_of_ble_eq_true rfl | omega | (simp only [AV.cells, List.length_map]; omega)) (by first | (simp only [setR, AV.cells, List.take_succ_cons, List.take_zero, List.drop_succ_cons, List.drop_zero, List.drop_nil, List.take_nil, List.nil_append, List.cons_append, List.append_nil, List.length_cons, List.length_nil, Nat.reduceAdd, Nat.zero_add, Nat.add_zero]; rfl) | rfl)) rfl rfl ⟨rfl, trivial⟩ ?_)
  refine arun_nil ?_
  refine awp_seq ?_
  refine awp_text (by kernel_rfl) ?_
  (refine r_pure (a_assign (r := .p _)) rfl rfl ?_)
  refine arun_nil ?_
  refine awp_reO (reo_drop 13) ?_
  refine awp_ret ?_
  refine ⟨(by first | exact .inl rfl | exact .inr rfl), ⟨_, (.tmp _ _ _ _ rfl .nil), ?_⟩, ?_, ?_⟩
  · exact rfl
  · (repeat (first | exact trivial | refine ⟨rfl, ?_⟩))
  · (intro o ho; simp only [List.any_cons, List.any_nil, Bool.or_false, Bool.or_eq_false_iff] at ho; simp [St.put, St.upd, updL, ho])
theorem writeByte_used (n : Nat) (xs : List Int) (c : Int) (hn : n ≤ 10000000) : FnO Try.prog 30 [.ref 1 0, .p (.v (.int .u8 c))] [(1, .live (bdAt 1 2)), (2, .live (.row 5 1 n (bs xs))), (13, .un), (14, .un)]
    [(1, .live (bdAt 1 14)), (2, .dead), (13, .dead), (14, .live (.row 5 1 (n + 1) (bs (xs ++ [c]))))] (.p (.v .nilIface)) := by
  refine fnO_intro Try.func30 rfl (Nat.le_of_ble_eq_true rfl) fun w0 A heap => ?_
  have hck := check_used (.row 2)
  unfold bdAt
  refine awp_seq ?_
  refine awp_text (by kernel_rfl) ?_
  (refine r_pure (a_assign (r := .p _)) rfl rfl ?_)
  refine arun_nil ?_
  refine awp_seq ?_
  refine awp_text (by kernel_rfl) ?_
  (refine r_pure (a_move (r := .ref _ _)) rfl rfl ?_)
  (refine r_callO0 (hck) rfl rfl Try.func48 rfl rfl (by repeat (first | exact trivial | refine ⟨rfl, ?_⟩)) rfl ?_)
  refine arun_nil ?_
  refine awp_seq ?_
  refine awp_text (by kernel_rfl) ?_
  (refine r_pure (a_move (r := .ref _ _)) rfl rfl ?_)
  (refine r_pure (a_move (r := .ref _ _)) rfl rfl ?_)
  (refine r_pure a_nilRef rfl rfl ?_)
  (refine r_pure (b_fieldAddr fi59_1 rfl) rfl rfl ?_)
  (refine r_run (a_load1 Try.underlying22 rfl (by first | rfl | assumption)) rfl rfl ⟨rfl, trivial⟩ ?_)
  (refine r_pure (a_move (r := .p _)) rfl rfl ?_)
  (refine r_run (xs := [.p (.v (.int .u8 c))]) (a_buildSlice (es := [.p (.v (.int .u8 c))]) (cs := [.v (.int .u8 c)]) 13 Try.underlying22 sz5 zc5 (Nat.le_of_ble_eq_true rfl) (Nat.le_of_ble_eq_true rfl) rfl (by kernel_rfl) (by kernel_rfl) (by kernel_rfl) (Nat.le_of_ble_eq_true rfl)) (by first | rfl | kernel_rfl) rfl ⟨rfl, trivial⟩ ?_)
  (refine r_run (a_append 14 Try.underlying22 eo5 (src_row) (by simp only [maxLen]; omega) (by omega) (show _ = n + 1 by omega) rfl) rfl rfl ⟨rfl, rfl, rfl, trivial⟩ ?_)
  (refine r_pure a_nilRef rfl rfl ?_)
  (refine r_pure (b_fieldAddr fi59_1 rfl) rfl rfl ?_)
  (refine r_run (a_store (Y := .row _) sz22 rfl (by first | exact Nat.eq_of_beq_eq_true rfl | (simp only [AV.cells, List.length_map]; first | assumption | omega)) (by first | exact Nat.le_of_ble_eq_true rfl | omega | (simp only [AV.cells, List.length_map]; omega)) (by first | (simp only [setR, AV.cells, List.take_succ_cons, List.take_zero, List.drop_succ_cons, List.drop_zero, List.drop_nil, List.take_nil, List.nil_append, List.cons_append, List.append_nil, List.length_cons, List.length_nil, Nat.reduceAdd, Nat.zero_add, Nat.add_zero]; rfl) | rfl)) rfl rfl ⟨rfl, trivial⟩ ?_)
  refine arun_nil ?_
  refine awp_seq ?_
  refine awp_text (by kernel_rfl) ?_
  (refine r_pure (a_assign (r := .p _)) rfl rfl ?_)
  refine arun_nil ?_
  refine awp_reO (reo_drop 13) ?_
  rw [← bs_push]
  refine awp_ret ?_
  refine ⟨(by first | exact .inl rfl | exact .inr rfl), ⟨_, (.tmp _ _ _ _ rfl .nil), ?_⟩, ?_, ?_⟩
  · exact rfl
  · (repeat (first | exact trivial | refine ⟨rfl, ?_⟩))
  · (intro o ho; simp only [List.any_cons, List.any_nil, Bool.or_false, Bool.or_eq_false_iff] at ho; simp [St.put, St.upd, updL, ho])
theorem string_new : FnO Try.prog 31 [.ref 1 0] [(1, .live bdNew)] [(1, .live bdNew)] (.p (.v (.string ⟨#[]⟩))) := by
  refine fnO_intro Try.func31 rfl (Nat.le_of_ble_eq_true rfl) fun w0 A heap => ?_
  unfold bdNew
  refine awp_seq ?_
  refine awp_text (by kernel_rfl) ?_
  (refine r_pure (a_assign (r := .p _)) rfl rfl ?_)
  refine arun_nil ?_
  refine awp_seq ?_
  refine awp_draw 6 (by kernel_rfl) ?_
  (refine r_pure (a_move (r := .ref _ _)) rfl rfl ?_)
  (refine r_pure a_nilRef rfl rfl ?_)
  (refine r_pure (b_fieldAddr fi59_1 rfl) rfl rfl ?_)
  (refine r_run (a_load1 Try.underlying22 rfl (by first | rfl | assumption)) rfl rfl ⟨rfl, trivial⟩ ?_)
  (refine r_pure a_sdNil rfl rfl ?_)
  (refine r_pure (a_move (r := .ref _ _)) rfl rfl ?_)
  (refine r_pure a_nilRef rfl rfl ?_)
  (refine r_pure (b_fieldAddr fi59_1 rfl) rfl rfl ?_)
  (refine r_run (a_load1 Try.underlying22 rfl (by first | rfl | assumption)) rfl rfl ⟨rfl, trivial⟩ ?_)
  (refine r_pure (a_lenNil Try.underlying22) rfl rfl ?_)
  (refine r_pure a_usNil rfl rfl ?_)
  (refine r_pure (a_assign (r := .p _)) rfl rfl ?_)
  refine arun_nil ⟨by kernel_rfl, ?_⟩
  refine awp_ret ?_
  refine ⟨(by first | exact .inl rfl | exact .inr rfl), ⟨_, (.tmp _ _ _ _ rfl .nil), ?_⟩, ?_, ?_⟩
  · exact rfl
  · (repeat (first | exact trivial | refine ⟨rfl, ?_⟩))
  · (intro o ho; simp only [List.any_cons, List.any_nil, Bool.or_false, Bool.or_eq_false_iff] at ho; simp [St.put, St.upd, updL, ho])
theorem string_used (n : Nat) (xs : List Int) (hn : 0 < n) (hB : isB xs) : FnO Try.prog 31 [.ref 1 0] [(1, .live (bdAt 1 2)), (2, .live (.row 5 1 n (bs xs)))] [(1, .live (bdAt 1 2)), (2, .dead)] (.p (.v (.string (strOfNums xs)))) := by
  refine fnO_intro Try.func31 rfl (Nat.le_of_ble_eq_true rfl) fun w0 A heap => ?_
  unfold bdAt
  refine awp_seq ?_
  refine awp_text (by kernel_rfl) ?_
  (refine r_pure (a_assign (r := .p _)) rfl rfl ?_)
  refine arun_nil ?_
  refine awp_seq ?_
  refine awp_draw 6 (by kernel_rfl) ?_
  (refine r_pure (a_move (r := .ref _ _)) rfl rfl ?_)
  (refine r_pure a_nilRef rfl rfl ?_)
  (refine r_pure (b_fieldAddr fi59_1 rfl) rfl rfl ?_)
  (refine r_run (a_load1 Try.underlying22 rfl (by first | rfl | assumption)) rfl rfl ⟨rfl, trivial⟩ ?_)
  (refine r_run (a_sdRow (by omega)) rfl rfl ⟨rfl, trivial⟩ ?_)
  (refine r_pure (a_move (r := .ref _ _)) rfl rfl ?_)
  (refine r_pure a_nilRef rfl rfl ?_)
  (refine r_pure (b_fieldAddr fi59_1 rfl) rfl rfl ?_)
  (refine r_run (a_load1 Try.underlying22 rfl (by first | rfl | assumption)) rfl rfl ⟨rfl, trivial⟩ ?_)
  (refine r_run (a_lenR Try.underlying22) rfl rfl ⟨rfl, trivial⟩ ?_)
  (refine r_run (a_usRow Try.underlying77 (by kernel_rfl) (by omega) (by assumption)) rfl rfl ⟨rfl, trivial⟩ ?_)
  (refine r_pure (a_assign (r := .p _)) rfl rfl ?_)
  refine arun_nil ⟨by kernel_rfl, ?_⟩
  refine awp_ret ?_
  refine ⟨(by first | exact .inl rfl | exact .inr rfl), ⟨_, (.tmp _ _ _ _ rfl .nil), ?_⟩, ?_, ?_⟩
  · exact rfl
  · (repeat (first | exact trivial | refine ⟨rfl, ?_⟩))
  · (intro o ho; simp only [List.any_cons, List.any_nil, Bool.or_false, Bool.or_eq_false_iff] at ho; simp [St.put, St.upd, updL, ho])
end Go.Proofs.Ytmdkfhmmhiofbaa
