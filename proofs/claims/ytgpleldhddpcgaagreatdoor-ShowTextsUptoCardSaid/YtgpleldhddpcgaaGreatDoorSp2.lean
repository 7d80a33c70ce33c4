/- The reference's ShowPeer, over data. -/
import Derived.Test.YtgpleldhddpcgaaGreatDoorSp1
import Derived.Test.YtgpleldhddpcgaaGreatDoorFz
--%T
namespace Go.Proofs.YtgpleldhddpcgaaGreatDoor
open Go.RowKit Go.Sort
set_option linter.unusedVariables false
set_option linter.unusedSimpArgs false
set_option maxRecDepth 100000

def seA (k : Int) (t : ByteArray) (n a b : Int) : List AV := [.p (.v (.int .i64 k)), .p (.v (.string t)), .p (.v (.int .i64 n)), .p (.v (.int .u32 a)), .p (.v (.int .i64 b))]
/-- the first one -/
theorem peE_al {p : PE} (h : peE p = 0) : 0 ≤ p.al := by
  unfold peE at h
  split at h
  · exact absurd h (by assumption)
  split at h
  · rename_i h2; exact absurd h h2.2
  split at h
  · cases h
  split at h
  · rename_i h2; exact absurd h h2.2
  split at h
  · cases h
  omega
theorem add1_s (k : Int) (t : ByteArray) (n a b : Int) : FnO Tryz.prog 112 [.p (.v (.bool true)), .agg (seA k t n a b), .ref 1 0] [(1, .live (.box 33 [.p (.v (.slice none 0 0))])), (4, .un), (8, .un), (9, .un)]
    [(1, .live (.box 33 [.row 9])), (4, .live (.box 86 (seA k t n a b))), (8, .live (.row 86 5 1 (seP k t n a b))), (9, .live (.row 86 5 1 (seP k t n a b)))] (.tup []) := by
  refine fnO_intro Tryz.func112 rfl (Nat.le_of_ble_eq_true rfl) fun w0 A heap => ?_
  refine awp_seq ?_
  refine tx ?_
  refine r_run (a_box (X := .agg _) 4 rfl) rfl rfl ⟨rfl, trivial⟩ ?_
  refine arun_nil ?_
  refine awp_seq ?_
  refine tx ?_
  refine mP rfl rfl ?_
  refine arun_nil ?_
  refine thn_n ?_
  refine awp_cT rfl ?_
  skip
  refine tx ?_
  refine l1 Tryz.underlying33 rfl rfl rfl ⟨rfl, trivial⟩ ?_
  refine lN Tryz.underlying86 rfl sz86 rfl rfl ⟨rfl, trivial⟩ ?_
  refine r_run (xs := [.agg (seA k t n a b)]) (a_buildSlice (es := (seA k t n a b)) (cs := (seP k t n a b)) 8 Tryz.underlying33 sz86 zc86 (Nat.le_of_ble_eq_true rfl) (Nat.le_of_ble_eq_true rfl) rfl (by kernel_rfl) (by kernel_rfl) (by kernel_rfl) (Nat.le_of_ble_eq_true rfl)) (by first | rfl | kernel_rfl) rfl ⟨rfl, trivial⟩ ?_
  refine r_run (a_appendNil 9 Tryz.underlying33 eo86 (src_row) (by simp only [maxLen]; omega) (by omega)) rfl rfl ⟨rfl, rfl, trivial⟩ ?_
  refine r_run (a_storeAll (Y := .row _) sz33 rfl (by first | exact Nat.eq_of_beq_eq_true rfl | (simp only [AV.cells, List.length_map]; first | assumption | omega)) (Nat.eq_of_beq_eq_true rfl)) rfl rfl ⟨rfl, trivial⟩ ?_
  refine arun_nil ?_
  skip
  refine ⟨(by first | exact .inl rfl | exact .inr rfl), ⟨_, .nil, ?_⟩, ?_, ?_⟩
  · exact rfl
  · (repeat (first | exact trivial | refine ⟨rfl, ?_⟩))
  · (intro o ho; simp only [List.any_cons, List.any_nil, Bool.or_false, Bool.or_eq_false_iff] at ho; simp [St.put, St.upd, updL, ho])
/-- one more -/
theorem addU_s (N : Nat) (L : List PV) (hN : N ≤ 2000000) (k : Int) (t : ByteArray) (n a b : Int) : FnO Tryz.prog 112 [.p (.v (.bool true)), .agg (seA k t n a b), .ref 1 0] [(1, .live (.box 33 [.row 2])), (2, .live (.row 86 5 N L)), (4, .un), (8, .un), (9, .un)]
    [(1, .live (.box 33 [.row 9])), (2, .dead), (4, .live (.box 86 (seA k t n a b))), (8, .live (.row 86 5 1 (seP k t n a b))), (9, .live (.row 86 5 (N + 1) (L ++ seP k t n a b)))] (.tup []) := by
  refine fnO_intro Tryz.func112 rfl (Nat.le_of_ble_eq_true rfl) fun w0 A heap => ?_
  refine awp_seq ?_
  refine tx ?_
  refine r_run (a_box (X := .agg _) 4 rfl) rfl rfl ⟨rfl, trivial⟩ ?_
  refine arun_nil ?_
  refine awp_seq ?_
  refine tx ?_
  refine mP rfl rfl ?_
  refine arun_nil ?_
  refine thn_n ?_
  refine awp_cT rfl ?_
  skip
  refine tx ?_
  refine l1 Tryz.underlying33 rfl rfl rfl ⟨rfl, trivial⟩ ?_
  refine lN Tryz.underlying86 rfl sz86 rfl rfl ⟨rfl, trivial⟩ ?_
  refine r_run (xs := [.agg (seA k t n a b)]) (a_buildSlice (es := (seA k t n a b)) (cs := (seP k t n a b)) 8 Tryz.underlying33 sz86 zc86 (Nat.le_of_ble_eq_true rfl) (Nat.le_of_ble_eq_true rfl) rfl (by kernel_rfl) (by kernel_rfl) (by kernel_rfl) (Nat.le_of_ble_eq_true rfl)) (by first | rfl | kernel_rfl) rfl ⟨rfl, trivial⟩ ?_
  refine r_run (a_append 9 Tryz.underlying33 eo86 (src_row) (by simp only [maxLen]; omega) (by omega) rfl rfl) rfl rfl ⟨rfl, rfl, rfl, trivial⟩ ?_
  refine r_run (a_storeAll (Y := .row _) sz33 rfl (by first | exact Nat.eq_of_beq_eq_true rfl | (simp only [AV.cells, List.length_map]; first | assumption | omega)) (Nat.eq_of_beq_eq_true rfl)) rfl rfl ⟨rfl, trivial⟩ ?_
  refine arun_nil ?_
  skip
  refine ⟨(by first | exact .inl rfl | exact .inr rfl), ⟨_, .nil, ?_⟩, ?_, ?_⟩
  · exact rfl
  · (repeat (first | exact trivial | refine ⟨rfl, ?_⟩))
  · (intro o ho; simp only [List.any_cons, List.any_nil, Bool.or_false, Bool.or_eq_false_iff] at ho; simp [St.put, St.upd, updL, ho])
/-- none -/
theorem addN_s (k : Int) (t : ByteArray) (n a b : Int) : FnO Tryz.prog 112 [.p (.v (.bool false)), .agg (seA k t n a b), .ref 1 0] [(4, .un)] [(4, .live (.box 86 (seA k t n a b)))] (.tup []) := by
  refine fnO_intro Tryz.func112 rfl (Nat.le_of_ble_eq_true rfl) fun w0 A heap => ?_
  refine awp_seq ?_
  refine tx ?_
  refine r_run (a_box (X := .agg _) 4 rfl) rfl rfl ⟨rfl, trivial⟩ ?_
  refine arun_nil ?_
  refine awp_seq ?_
  refine tx ?_
  refine mP rfl rfl ?_
  refine arun_nil ?_
  refine thn_n ?_
  refine awp_cF rfl ?_
  refine awp_skip ?_
  skip
  refine ⟨(by first | exact .inl rfl | exact .inr rfl), ⟨_, .nil, ?_⟩, ?_, ?_⟩
  · exact rfl
  · (repeat (first | exact trivial | refine ⟨rfl, ?_⟩))
  · (intro o ho; simp only [List.any_cons, List.any_nil, Bool.or_false, Bool.or_eq_false_iff] at ho; simp [St.put, St.upd, updL, ho])
end Go.Proofs.YtgpleldhddpcgaaGreatDoor
