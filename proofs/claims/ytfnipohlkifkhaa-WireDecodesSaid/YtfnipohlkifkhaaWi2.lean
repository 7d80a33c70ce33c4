/- wire.Encode over data, by the types. -/
import Derived.Test.YtfnipohlkifkhaaWi1
namespace Go.Proofs.Ytfnipohlkifkhaa
open Go.RowKit Go.Sort
set_option linter.unusedVariables false
set_option linter.unusedSimpArgs false
set_option maxRecDepth 100000

set_option maxHeartbeats 2000000 in
theorem wenc1_s (m : MS) (ht : m.t = 1) (hE : wE m = 0) (hx : m.xs.length = m.n) (hn : m.n ≤ 300) (hs0 : 0 ≤ m.s) (hs1 : m.s ≤ 4294967295) (hr0 : 0 ≤ m.r) (hr1 : m.r ≤ 4294967295) (hc0 : 0 ≤ m.c) (hc1 : m.c ≤ 1099511627776) : Fn Try.prog 46 [.agg m.cells] (.tup [.row 0, .p (.v (.int .i64 0))]) [(0, .row 5 1 (8 + m.n) (bs ([1, 0, 0, 0] ++ leN 4 m.s.toNat ++ m.xs)))] := by
  have hC := wcheck_s m (by omega)
  rw [hE] at hC
  have hO := of_s m.t
  rw [ht] at hO
  change Fn Try.prog _ _ (.tup [.agg (SH.cells ⟨32, 32, true, false, false, true⟩), .p (.v (.bool true))]) [] at hO
  obtain ⟨T, S, R, C, n, xs⟩ := m
  simp only [MS.cells] at *
  subst ht
  obtain ⟨S, rfl⟩ := Int.eq_ofNat_of_zero_le hs0
  obtain ⟨R, rfl⟩ := Int.eq_ofNat_of_zero_le hr0
  obtain ⟨C, rfl⟩ := Int.eq_ofNat_of_zero_le hc0
  simp only [Int.toNat_natCast]
  clear hE hs0 hr0 hc0
  refine fn_intro Try.func46 rfl (Nat.le_of_ble_eq_true rfl) fun w0 A => ?_
  refine awp_seq ?_
  refine awp_text (by kernel_rfl) ?_
  (refine r_run (a_box (X := .agg _) 1 rfl) rfl rfl ⟨rfl, trivial⟩ ?_)
  (refine r_pure (a_assign (r := .p _)) rfl rfl ?_)
  (refine r_pure (a_assign (r := .p _)) rfl rfl ?_)
  refine arun_nil ?_
  refine awp_seq (awp_seq ?_)
  refine awp_text (by kernel_rfl) ?_
  (refine r_run (a_loadN Try.underlying66 rfl sz66 (by first | exact Nat.le_of_ble_eq_true rfl | omega | (simp only [AV.cells, List.length_map]; omega)) (by first | exact take_all (by first | assumption | exact Nat.eq_of_beq_eq_true rfl | (simp only [AV.cells, List.length_map]; first | assumption | omega)) | (simp only [List.take_succ_cons, List.take_zero, List.drop_succ_cons, List.drop_zero]; rfl) | rfl)) rfl rfl ⟨rfl, trivial⟩ ?_)
  (refine r_callV (fun n => 9 + 1000 * n) (hC) rfl rfl Try.func45 rfl rfl (by first | rfl | simp [AV.noSl, AV.noSlL, AObj.noSl, PV.isV, bs_noSl]) (by first | rfl | simp [AV.noSl, AV.noSlL, AObj.noSl, PV.isV, bs_noSl]) rfl rfl rfl (by first | exact trivial | exact ⟨rfl, trivial⟩ | exact ⟨rfl, rfl, trivial⟩) rfl rfl rfl ?_)
  (refine r_pure (a_assign (r := .p _)) rfl rfl ?_)
  refine arun_nil ?_
  refine awp_seq ?_
  refine awp_text (by kernel_rfl) ?_
  (refine r_pure (a_move (r := .p _)) rfl rfl ?_)
  (refine r_pure a_neq rfl rfl ?_)
  refine arun_nil ?_
  refine thn_n ?_
  refine awp_cond _ rfl (fun h => ?_) (fun h => ?_)
  · cases h
  clear h
  refine awp_skip (awp_seq ?_)
  refine awp_text (by kernel_rfl) ?_
  (refine r_pure (b_fieldAddr fi66_0 rfl) rfl rfl ?_)
  (refine r_run (a_load1 Try.underlying3 rfl (by first | rfl | assumption)) rfl rfl ⟨rfl, trivial⟩ ?_)
  (refine r_callV (fun n => 16 + 1000 * n) (hO) rfl rfl Try.func91 rfl rfl (by first | rfl | simp [AV.noSl, AV.noSlL, AObj.noSl, PV.isV, bs_noSl]) (by first | rfl | simp [AV.noSl, AV.noSlL, AObj.noSl, PV.isV, bs_noSl]) rfl rfl rfl (by first | exact trivial | exact ⟨rfl, trivial⟩ | exact ⟨rfl, rfl, trivial⟩) rfl rfl rfl ?_)
  (refine r_pure (a_move (r := .tup _)) rfl rfl ?_)
  (refine r_pure (a_extract rfl) rfl rfl ?_)
  (refine r_pure (a_extract rfl) rfl rfl ?_)
  (refine r_run (a_alloc 5 zr113 rfl) rfl rfl ⟨rfl, trivial⟩ ?_)
  (refine r_run (a_storeAll (Y := .agg _) sz113 rfl (by first | exact Nat.eq_of_beq_eq_true rfl | (simp only [AV.cells, List.length_map]; first | assumption | omega)) (Nat.eq_of_beq_eq_true rfl)) rfl rfl ⟨rfl, trivial⟩ ?_)
  (refine r_pure (a_assign (r := .p _)) rfl rfl ?_)
  refine arun_nil ?_
  refine awp_seq ?_
  refine awp_text (by kernel_rfl) ?_
  (refine r_pure (b_fieldAddr fi66_0 rfl) rfl rfl ?_)
  (refine r_run (a_load1 Try.underlying3 rfl (by first | rfl | assumption)) rfl rfl ⟨rfl, trivial⟩ ?_)
  (refine r_pure (a_conv Try.underlying3 Try.underlying5 (show _ = (1 : Int) from rfl)) rfl rfl ?_)
  (refine r_run (xs := [.p (.v (.int .u8 1)), .p (.v (.int .u8 0)), .p (.v (.int .u8 0)), .p (.v (.int .u8 0))]) (a_buildSlice (es := [.p (.v (.int .u8 1)), .p (.v (.int .u8 0)), .p (.v (.int .u8 0)), .p (.v (.int .u8 0))]) (cs := (bs [1, 0, 0, 0])) 22 Try.underlying42 sz5 zc5 (Nat.le_of_ble_eq_true rfl) (Nat.le_of_ble_eq_true rfl) rfl (by kernel_rfl) (by kernel_rfl) (by kernel_rfl) (Nat.le_of_ble_eq_true rfl)) (by first | rfl | kernel_rfl) rfl ⟨rfl, trivial⟩ ?_)
  (refine r_pure (a_assign (r := .row _)) rfl rfl ?_)
  refine arun_nil ?_
  refine thn_n (awp_re (re_of (fun o => bif Nat.beq o 7 then 22 else o) [(1, .ref 1 0), (5, .ref 5 0), (7, .row 7)] [(1, .box 66 [.p (.v (.int .i64 1)), .p (.v (.int .i64 (S : Nat))), .p (.v (.int .i64 (R : Nat))), .p (.v (.int .i64 (C : Nat))), .p (.sl n 1 (bs xs))]), (5, .box 113 (SH.cells ⟨32, 32, true, false, false, true⟩)), (7, .row 5 1 4 (bs ([1, 0, 0, 0])))] ⟨⟨rfl, rfl⟩, ⟨rfl, rfl⟩, ⟨rfl, rfl⟩, trivial⟩ ⟨⟨rfl, rfl⟩, ⟨rfl, rfl⟩, ⟨rfl, rfl⟩, trivial⟩ rfl) ?_)
  refine awp_seq (awp_seq ?_)
  refine awp_text (by kernel_rfl) ?_
  (refine r_pure (b_fieldAddr fi113_2 rfl) rfl rfl ?_)
  (refine r_run (a_load1 Try.underlying4 rfl (by first | rfl | assumption)) rfl rfl ⟨rfl, trivial⟩ ?_)
  refine arun_nil ?_
  refine thn_n ?_
  refine awp_cond _ rfl (fun h => ?_) (fun h => ?_)
  rotate_left
  · cases h
  clear h
  have w1 : FnO Try.prog 92 [.row 7, .p (.v (.int .i64 (S : Nat))), .p (.v (.int .i64 4))] ((7, .live (.row 5 1 4 (bs ([1, 0, 0, 0])))) :: [(100, .un), (101, .un), (102, .un), (103, .un), (104, .un), (105, .un), (106, .un), (107, .un)]) ((107, .live (.row 5 1 8 (bs ([1, 0, 0, 0] ++ leN 4 S)))) :: (7, .dead) :: [(100, .dead), (101, .dead), (102, .dead), (103, .dead), (104, .dead), (105, .dead), (106, .dead)]) (.row 107) := (put4_s 4 ([1, 0, 0, 0]) S (by simp [leN_len]) (by omega) (by omega)).renamed [(1, 7)] rfl
  skip
  refine awp_text (by kernel_rfl) ?_
  (refine r_pure (a_move (r := .row _)) rfl rfl ?_)
  (refine r_pure (b_fieldAddr fi66_1 rfl) rfl rfl ?_)
  (refine r_run (a_load1 Try.underlying3 rfl (by first | rfl | assumption)) rfl rfl ⟨rfl, trivial⟩ ?_)
  (refine r_callO0 (w1) rfl rfl Try.func92 rfl rfl (by repeat (first | exact trivial | refine ⟨rfl, ?_⟩)) rfl ?_)
  (refine r_pure (a_assign (r := .row _)) rfl rfl ?_)
  refine arun_nil ?_
  refine awp_seq (awp_seq ?_)
  refine awp_re (re_of (fun o => bif Nat.beq o 7 then 107 else o) [(1, .ref 1 0), (5, .ref 5 0), (7, .row 7)] [(1, .box 66 [.p (.v (.int .i64 1)), .p (.v (.int .i64 (S : Nat))), .p (.v (.int .i64 (R : Nat))), .p (.v (.int .i64 (C : Nat))), .p (.sl n 1 (bs xs))]), (5, .box 113 (SH.cells ⟨32, 32, true, false, false, true⟩)), (7, .row 5 1 8 (bs ([1, 0, 0, 0] ++ leN 4 S)))] ⟨⟨rfl, rfl⟩, ⟨rfl, rfl⟩, ⟨rfl, rfl⟩, trivial⟩ ⟨⟨rfl, rfl⟩, ⟨rfl, rfl⟩, ⟨rfl, rfl⟩, trivial⟩ rfl) ?_
  skip
  refine awp_text (by kernel_rfl) ?_
  (refine r_pure (b_fieldAddr fi113_3 rfl) rfl rfl ?_)
  (refine r_run (a_load1 Try.underlying4 rfl (by first | rfl | assumption)) rfl rfl ⟨rfl, trivial⟩ ?_)
  refine arun_nil ?_
  refine thn_n ?_
  refine awp_cond _ rfl (fun h => ?_) (fun h => ?_)
  · cases h
  clear h
  refine awp_skip (awp_seq (awp_seq ?_))
  refine awp_text (by kernel_rfl) ?_
  (refine r_pure (b_fieldAddr fi113_4 rfl) rfl rfl ?_)
  (refine r_run (a_load1 Try.underlying4 rfl (by first | rfl | assumption)) rfl rfl ⟨rfl, trivial⟩ ?_)
  refine arun_nil ?_
  refine thn_n ?_
  refine awp_cond _ rfl (fun h => ?_) (fun h => ?_)
  · cases h
  clear h
  have hK := clone_s 8 ([1, 0, 0, 0] ++ leN 4 S) (by simp [leN_len]) (by omega)
  refine awp_skip (awp_seq ?_)
  refine awp_draw 6 (by kernel_rfl) ?_
  (refine r_pure (a_move (r := .row _)) rfl rfl ?_)
  (refine r_callV (fun n => 42 + 1000 * n) (hK) rfl rfl Try.func79 rfl rfl (by first | rfl | simp [AV.noSl, AV.noSlL, AObj.noSl, PV.isV, bs_noSl]) (by first | rfl | simp [AV.noSl, AV.noSlL, AObj.noSl, PV.isV, bs_noSl]) rfl rfl rfl (by first | exact trivial | exact ⟨rfl, trivial⟩ | exact ⟨rfl, rfl, trivial⟩) rfl rfl rfl ?_)
  (refine r_pure (b_fieldAddr fi66_4 rfl) rfl rfl ?_)
  (refine r_run (a_load1 Try.underlying42 rfl (by first | rfl | assumption)) rfl rfl ⟨rfl, trivial⟩ ?_)
  (refine r_run (a_append 45 Try.underlying42 eo5 (src_sl) (by simp only [maxLen]; omega) (by omega) (show _ = 8 + n by omega) bs_appd) rfl rfl ⟨rfl, rfl, trivial⟩ ?_)
  (refine r_pure (a_assign (r := .row _)) rfl rfl ?_)
  (refine r_pure (a_assign (r := .p _)) rfl rfl ?_)
  refine arun_nil ⟨by kernel_rfl, ?_⟩
  refine awp_ret ?_
  refine ⟨(by first | exact .inl rfl | exact .inr rfl), _, (fun _ => 45), (.tmp _ _ _ _ rfl (.tmp _ _ _ _ rfl .nil)), ?_, rfl, ?_, rfl⟩
  · exact rfl
  · exact ⟨⟨rfl, rfl⟩, trivial⟩

set_option maxHeartbeats 2000000 in
theorem wenc2_s (m : MS) (ht : m.t = 2) (hE : wE m = 0) (hx : m.xs.length = m.n) (hn : m.n ≤ 300) (hs0 : 0 ≤ m.s) (hs1 : m.s ≤ 4294967295) (hr0 : 0 ≤ m.r) (hr1 : m.r ≤ 4294967295) (hc0 : 0 ≤ m.c) (hc1 : m.c ≤ 1099511627776) : Fn Try.prog 46 [.agg m.cells] (.tup [.row 0, .p (.v (.int .i64 0))]) [(0, .row 5 1 (12 + m.n) (bs ([2, 0, 0, 0] ++ leN 4 m.s.toNat ++ leN 4 m.r.toNat ++ m.xs)))] := by
  have hC := wcheck_s m (by omega)
  rw [hE] at hC
  have hO := of_s m.t
  rw [ht] at hO
  change Fn Try.prog _ _ (.tup [.agg (SH.cells ⟨24, 24, true, true, false, true⟩), .p (.v (.bool true))]) [] at hO
  obtain ⟨T, S, R, C, n, xs⟩ := m
  simp only [MS.cells] at *
  subst ht
  obtain ⟨S, rfl⟩ := Int.eq_ofNat_of_zero_le hs0
  obtain ⟨R, rfl⟩ := Int.eq_ofNat_of_zero_le hr0
  obtain ⟨C, rfl⟩ := Int.eq_ofNat_of_zero_le hc0
  simp only [Int.toNat_natCast]
  clear hE hs0 hr0 hc0
  refine fn_intro Try.func46 rfl (Nat.le_of_ble_eq_true rfl) fun w0 A => ?_
  refine awp_seq ?_
  refine awp_text (by kernel_rfl) ?_
  (refine r_run (a_box (X := .agg _) 1 rfl) rfl rfl ⟨rfl, trivial⟩ ?_)
  (refine r_pure (a_assign (r := .p _)) rfl rfl ?_)
  (refine r_pure (a_assign (r := .p _)) rfl rfl ?_)
  refine arun_nil ?_
  refine awp_seq (awp_seq ?_)
  refine awp_text (by kernel_rfl) ?_
  (refine r_run (a_loadN Try.underlying66 rfl sz66 (by first | exact Nat.le_of_ble_eq_true rfl | omega | (simp only [AV.cells, List.length_map]; omega)) (by first | exact take_all (by first | assumption | exact Nat.eq_of_beq_eq_true rfl | (simp only [AV.cells, List.length_map]; first | assumption | omega)) | (simp only [List.take_succ_cons, List.take_zero, List.drop_succ_cons, List.drop_zero]; rfl) | rfl)) rfl rfl ⟨rfl, trivial⟩ ?_)
  (refine r_callV (fun n => 9 + 1000 * n) (hC) rfl rfl Try.func45 rfl rfl (by first | rfl | simp [AV.noSl, AV.noSlL, AObj.noSl, PV.isV, bs_noSl]) (by first | rfl | simp [AV.noSl, AV.noSlL, AObj.noSl, PV.isV, bs_noSl]) rfl rfl rfl (by first | exact trivial | exact ⟨rfl, trivial⟩ | exact ⟨rfl, rfl, trivial⟩) rfl rfl rfl ?_)
  (refine r_pure (a_assign (r := .p _)) rfl rfl ?_)
  refine arun_nil ?_
  refine awp_seq ?_
  refine awp_text (by kernel_rfl) ?_
  (refine r_pure (a_move (r := .p _)) rfl rfl ?_)
  (refine r_pure a_neq rfl rfl ?_)
  refine arun_nil ?_
  refine thn_n ?_
  refine awp_cond _ rfl (fun h => ?_) (fun h => ?_)
  · cases h
  clear h
  refine awp_skip (awp_seq ?_)
  refine awp_text (by kernel_rfl) ?_
  (refine r_pure (b_fieldAddr fi66_0 rfl) rfl rfl ?_)
  (refine r_run (a_load1 Try.underlying3 rfl (by first | rfl | assumption)) rfl rfl ⟨rfl, trivial⟩ ?_)
  (refine r_callV (fun n => 16 + 1000 * n) (hO) rfl rfl Try.func91 rfl rfl (by first | rfl | simp [AV.noSl, AV.noSlL, AObj.noSl, PV.isV, bs_noSl]) (by first | rfl | simp [AV.noSl, AV.noSlL, AObj.noSl, PV.isV, bs_noSl]) rfl rfl rfl (by first | exact trivial | exact ⟨rfl, trivial⟩ | exact ⟨rfl, rfl, trivial⟩) rfl rfl rfl ?_)
  (refine r_pure (a_move (r := .tup _)) rfl rfl ?_)
  (refine r_pure (a_extract rfl) rfl rfl ?_)
  (refine r_pure (a_extract rfl) rfl rfl ?_)
  (refine r_run (a_alloc 5 zr113 rfl) rfl rfl ⟨rfl, trivial⟩ ?_)
  (refine r_run (a_storeAll (Y := .agg _) sz113 rfl (by first | exact Nat.eq_of_beq_eq_true rfl | (simp only [AV.cells, List.length_map]; first | assumption | omega)) (Nat.eq_of_beq_eq_true rfl)) rfl rfl ⟨rfl, trivial⟩ ?_)
  (refine r_pure (a_assign (r := .p _)) rfl rfl ?_)
  refine arun_nil ?_
  refine awp_seq ?_
  refine awp_text (by kernel_rfl) ?_
  (refine r_pure (b_fieldAddr fi66_0 rfl) rfl rfl ?_)
  (refine r_run (a_load1 Try.underlying3 rfl (by first | rfl | assumption)) rfl rfl ⟨rfl, trivial⟩ ?_)
  (refine r_pure (a_conv Try.underlying3 Try.underlying5 (show _ = (2 : Int) from rfl)) rfl rfl ?_)
  (refine r_run (xs := [.p (.v (.int .u8 2)), .p (.v (.int .u8 0)), .p (.v (.int .u8 0)), .p (.v (.int .u8 0))]) (a_buildSlice (es := [.p (.v (.int .u8 2)), .p (.v (.int .u8 0)), .p (.v (.int .u8 0)), .p (.v (.int .u8 0))]) (cs := (bs [2, 0, 0, 0])) 22 Try.underlying42 sz5 zc5 (Nat.le_of_ble_eq_true rfl) (Nat.le_of_ble_eq_true rfl) rfl (by kernel_rfl) (by kernel_rfl) (by kernel_rfl) (Nat.le_of_ble_eq_true rfl)) (by first | rfl | kernel_rfl) rfl ⟨rfl, trivial⟩ ?_)
  (refine r_pure (a_assign (r := .row _)) rfl rfl ?_)
  refine arun_nil ?_
  refine thn_n (awp_re (re_of (fun o => bif Nat.beq o 7 then 22 else o) [(1, .ref 1 0), (5, .ref 5 0), (7, .row 7)] [(1, .box 66 [.p (.v (.int .i64 2)), .p (.v (.int .i64 (S : Nat))), .p (.v (.int .i64 (R : Nat))), .p (.v (.int .i64 (C : Nat))), .p (.sl n 1 (bs xs))]), (5, .box 113 (SH.cells ⟨24, 24, true, true, false, true⟩)), (7, .row 5 1 4 (bs ([2, 0, 0, 0])))] ⟨⟨rfl, rfl⟩, ⟨rfl, rfl⟩, ⟨rfl, rfl⟩, trivial⟩ ⟨⟨rfl, rfl⟩, ⟨rfl, rfl⟩, ⟨rfl, rfl⟩, trivial⟩ rfl) ?_)
  refine awp_seq (awp_seq ?_)
  refine awp_text (by kernel_rfl) ?_
  (refine r_pure (b_fieldAddr fi113_2 rfl) rfl rfl ?_)
  (refine r_run (a_load1 Try.underlying4 rfl (by first | rfl | assumption)) rfl rfl ⟨rfl, trivial⟩ ?_)
  refine arun_nil ?_
  refine thn_n ?_
  refine awp_cond _ rfl (fun h => ?_) (fun h => ?_)
  rotate_left
  · cases h
  clear h
  have w1 : FnO Try.prog 92 [.row 7, .p (.v (.int .i64 (S : Nat))), .p (.v (.int .i64 4))] ((7, .live (.row 5 1 4 (bs ([2, 0, 0, 0])))) :: [(100, .un), (101, .un), (102, .un), (103, .un), (104, .un), (105, .un), (106, .un), (107, .un)]) ((107, .live (.row 5 1 8 (bs ([2, 0, 0, 0] ++ leN 4 S)))) :: (7, .dead) :: [(100, .dead), (101, .dead), (102, .dead), (103, .dead), (104, .dead), (105, .dead), (106, .dead)]) (.row 107) := (put4_s 4 ([2, 0, 0, 0]) S (by simp [leN_len]) (by omega) (by omega)).renamed [(1, 7)] rfl
  skip
  refine awp_text (by kernel_rfl) ?_
  (refine r_pure (a_move (r := .row _)) rfl rfl ?_)
  (refine r_pure (b_fieldAddr fi66_1 rfl) rfl rfl ?_)
  (refine r_run (a_load1 Try.underlying3 rfl (by first | rfl | assumption)) rfl rfl ⟨rfl, trivial⟩ ?_)
  (refine r_callO0 (w1) rfl rfl Try.func92 rfl rfl (by repeat (first | exact trivial | refine ⟨rfl, ?_⟩)) rfl ?_)
  (refine r_pure (a_assign (r := .row _)) rfl rfl ?_)
  refine arun_nil ?_
  refine awp_seq (awp_seq ?_)
  refine awp_re (re_of (fun o => bif Nat.beq o 7 then 107 else o) [(1, .ref 1 0), (5, .ref 5 0), (7, .row 7)] [(1, .box 66 [.p (.v (.int .i64 2)), .p (.v (.int .i64 (S : Nat))), .p (.v (.int .i64 (R : Nat))), .p (.v (.int .i64 (C : Nat))), .p (.sl n 1 (bs xs))]), (5, .box 113 (SH.cells ⟨24, 24, true, true, false, true⟩)), (7, .row 5 1 8 (bs ([2, 0, 0, 0] ++ leN 4 S)))] ⟨⟨rfl, rfl⟩, ⟨rfl, rfl⟩, ⟨rfl, rfl⟩, trivial⟩ ⟨⟨rfl, rfl⟩, ⟨rfl, rfl⟩, ⟨rfl, rfl⟩, trivial⟩ rfl) ?_
  skip
  refine awp_text (by kernel_rfl) ?_
  (refine r_pure (b_fieldAddr fi113_3 rfl) rfl rfl ?_)
  (refine r_run (a_load1 Try.underlying4 rfl (by first | rfl | assumption)) rfl rfl ⟨rfl, trivial⟩ ?_)
  refine arun_nil ?_
  refine thn_n ?_
  refine awp_cond _ rfl (fun h => ?_) (fun h => ?_)
  rotate_left
  · cases h
  clear h
  have w2 : FnO Try.prog 92 [.row 7, .p (.v (.int .i64 (R : Nat))), .p (.v (.int .i64 4))] ((7, .live (.row 5 1 8 (bs ([2, 0, 0, 0] ++ leN 4 S)))) :: [(100, .un), (101, .un), (102, .un), (103, .un), (104, .un), (105, .un), (106, .un), (107, .un)]) ((107, .live (.row 5 1 12 (bs ([2, 0, 0, 0] ++ leN 4 S ++ leN 4 R)))) :: (7, .dead) :: [(100, .dead), (101, .dead), (102, .dead), (103, .dead), (104, .dead), (105, .dead), (106, .dead)]) (.row 107) := (put4_s 8 ([2, 0, 0, 0] ++ leN 4 S) R (by simp [leN_len]) (by omega) (by omega)).renamed [(1, 7)] rfl
  skip
  refine awp_text (by kernel_rfl) ?_
  (refine r_pure (a_move (r := .row _)) rfl rfl ?_)
  (refine r_pure (b_fieldAddr fi66_2 rfl) rfl rfl ?_)
  (refine r_run (a_load1 Try.underlying3 rfl (by first | rfl | assumption)) rfl rfl ⟨rfl, trivial⟩ ?_)
  (refine r_callO0 (w2) rfl rfl Try.func92 rfl rfl (by repeat (first | exact trivial | refine ⟨rfl, ?_⟩)) rfl ?_)
  (refine r_pure (a_assign (r := .row _)) rfl rfl ?_)
  refine arun_nil ?_
  refine awp_seq (awp_seq ?_)
  refine awp_re (re_of (fun o => bif Nat.beq o 7 then 107 else o) [(1, .ref 1 0), (5, .ref 5 0), (7, .row 7)] [(1, .box 66 [.p (.v (.int .i64 2)), .p (.v (.int .i64 (S : Nat))), .p (.v (.int .i64 (R : Nat))), .p (.v (.int .i64 (C : Nat))), .p (.sl n 1 (bs xs))]), (5, .box 113 (SH.cells ⟨24, 24, true, true, false, true⟩)), (7, .row 5 1 12 (bs ([2, 0, 0, 0] ++ leN 4 S ++ leN 4 R)))] ⟨⟨rfl, rfl⟩, ⟨rfl, rfl⟩, ⟨rfl, rfl⟩, trivial⟩ ⟨⟨rfl, rfl⟩, ⟨rfl, rfl⟩, ⟨rfl, rfl⟩, trivial⟩ rfl) ?_
  skip
  refine awp_text (by kernel_rfl) ?_
  (refine r_pure (b_fieldAddr fi113_4 rfl) rfl rfl ?_)
  (refine r_run (a_load1 Try.underlying4 rfl (by first | rfl | assumption)) rfl rfl ⟨rfl, trivial⟩ ?_)
  refine arun_nil ?_
  refine thn_n ?_
  refine awp_cond _ rfl (fun h => ?_) (fun h => ?_)
  · cases h
  clear h
  have hK := clone_s 12 ([2, 0, 0, 0] ++ leN 4 S ++ leN 4 R) (by simp [leN_len]) (by omega)
  refine awp_skip (awp_seq ?_)
  refine awp_draw 6 (by kernel_rfl) ?_
  (refine r_pure (a_move (r := .row _)) rfl rfl ?_)
  (refine r_callV (fun n => 42 + 1000 * n) (hK) rfl rfl Try.func79 rfl rfl (by first | rfl | simp [AV.noSl, AV.noSlL, AObj.noSl, PV.isV, bs_noSl]) (by first | rfl | simp [AV.noSl, AV.noSlL, AObj.noSl, PV.isV, bs_noSl]) rfl rfl rfl (by first | exact trivial | exact ⟨rfl, trivial⟩ | exact ⟨rfl, rfl, trivial⟩) rfl rfl rfl ?_)
  (refine r_pure (b_fieldAddr fi66_4 rfl) rfl rfl ?_)
  (refine r_run (a_load1 Try.underlying42 rfl (by first | rfl | assumption)) rfl rfl ⟨rfl, trivial⟩ ?_)
  (refine r_run (a_append 45 Try.underlying42 eo5 (src_sl) (by simp only [maxLen]; omega) (by omega) (show _ = 12 + n by omega) bs_appd) rfl rfl ⟨rfl, rfl, trivial⟩ ?_)
  (refine r_pure (a_assign (r := .row _)) rfl rfl ?_)
  (refine r_pure (a_assign (r := .p _)) rfl rfl ?_)
  refine arun_nil ⟨by kernel_rfl, ?_⟩
  refine awp_ret ?_
  refine ⟨(by first | exact .inl rfl | exact .inr rfl), _, (fun _ => 45), (.tmp _ _ _ _ rfl (.tmp _ _ _ _ rfl .nil)), ?_, rfl, ?_, rfl⟩
  · exact rfl
  · exact ⟨⟨rfl, rfl⟩, trivial⟩

set_option maxHeartbeats 2000000 in
theorem wenc4_s (m : MS) (ht : m.t = 4) (hE : wE m = 0) (hx : m.xs.length = m.n) (hn : m.n ≤ 300) (hs0 : 0 ≤ m.s) (hs1 : m.s ≤ 4294967295) (hr0 : 0 ≤ m.r) (hr1 : m.r ≤ 4294967295) (hc0 : 0 ≤ m.c) (hc1 : m.c ≤ 1099511627776) : Fn Try.prog 46 [.agg m.cells] (.tup [.row 0, .p (.v (.int .i64 0))]) [(0, .row 5 1 (16 + m.n) (bs ([4, 0, 0, 0] ++ leN 4 m.r.toNat ++ leN 8 m.c.toNat ++ m.xs)))] := by
  have hC := wcheck_s m (by omega)
  rw [hE] at hC
  have hO := of_s m.t
  rw [ht] at hO
  change Fn Try.prog _ _ (.tup [.agg (SH.cells ⟨16, 236, false, true, true, true⟩), .p (.v (.bool true))]) [] at hO
  obtain ⟨T, S, R, C, n, xs⟩ := m
  simp only [MS.cells] at *
  subst ht
  obtain ⟨S, rfl⟩ := Int.eq_ofNat_of_zero_le hs0
  obtain ⟨R, rfl⟩ := Int.eq_ofNat_of_zero_le hr0
  obtain ⟨C, rfl⟩ := Int.eq_ofNat_of_zero_le hc0
  simp only [Int.toNat_natCast]
  clear hE hs0 hr0 hc0
  refine fn_intro Try.func46 rfl (Nat.le_of_ble_eq_true rfl) fun w0 A => ?_
  refine awp_seq ?_
  refine awp_text (by kernel_rfl) ?_
  (refine r_run (a_box (X := .agg _) 1 rfl) rfl rfl ⟨rfl, trivial⟩ ?_)
  (refine r_pure (a_assign (r := .p _)) rfl rfl ?_)
  (refine r_pure (a_assign (r := .p _)) rfl rfl ?_)
  refine arun_nil ?_
  refine awp_seq (awp_seq ?_)
  refine awp_text (by kernel_rfl) ?_
  (refine r_run (a_loadN Try.underlying66 rfl sz66 (by first | exact Nat.le_of_ble_eq_true rfl | omega | (simp only [AV.cells, List.length_map]; omega)) (by first | exact take_all (by first | assumption | exact Nat.eq_of_beq_eq_true rfl | (simp only [AV.cells, List.length_map]; first | assumption | omega)) | (simp only [List.take_succ_cons, List.take_zero, List.drop_succ_cons, List.drop_zero]; rfl) | rfl)) rfl rfl ⟨rfl, trivial⟩ ?_)
  (refine r_callV (fun n => 9 + 1000 * n) (hC) rfl rfl Try.func45 rfl rfl (by first | rfl | simp [AV.noSl, AV.noSlL, AObj.noSl, PV.isV, bs_noSl]) (by first | rfl | simp [AV.noSl, AV.noSlL, AObj.noSl, PV.isV, bs_noSl]) rfl rfl rfl (by first | exact trivial | exact ⟨rfl, trivial⟩ | exact ⟨rfl, rfl, trivial⟩) rfl rfl rfl ?_)
  (refine r_pure (a_assign (r := .p _)) rfl rfl ?_)
  refine arun_nil ?_
  refine awp_seq ?_
  refine awp_text (by kernel_rfl) ?_
  (refine r_pure (a_move (r := .p _)) rfl rfl ?_)
  (refine r_pure a_neq rfl rfl ?_)
  refine arun_nil ?_
  refine thn_n ?_
  refine awp_cond _ rfl (fun h => ?_) (fun h => ?_)
  · cases h
  clear h
  refine awp_skip (awp_seq ?_)
  refine awp_text (by kernel_rfl) ?_
  (refine r_pure (b_fieldAddr fi66_0 rfl) rfl rfl ?_)
  (refine r_run (a_load1 Try.underlying3 rfl (by first | rfl | assumption)) rfl rfl ⟨rfl, trivial⟩ ?_)
  (refine r_callV (fun n => 16 + 1000 * n) (hO) rfl rfl Try.func91 rfl rfl (by first | rfl | simp [AV.noSl, AV.noSlL, AObj.noSl, PV.isV, bs_noSl]) (by first | rfl | simp [AV.noSl, AV.noSlL, AObj.noSl, PV.isV, bs_noSl]) rfl rfl rfl (by first | exact trivial | exact ⟨rfl, trivial⟩ | exact ⟨rfl, rfl, trivial⟩) rfl rfl rfl ?_)
  (refine r_pure (a_move (r := .tup _)) rfl rfl ?_)
  (refine r_pure (a_extract rfl) rfl rfl ?_)
  (refine r_pure (a_extract rfl) rfl rfl ?_)
  (refine r_run (a_alloc 5 zr113 rfl) rfl rfl ⟨rfl, trivial⟩ ?_)
  (refine r_run (a_storeAll (Y := .agg _) sz113 rfl (by first | exact Nat.eq_of_beq_eq_true rfl | (simp only [AV.cells, List.length_map]; first | assumption | omega)) (Nat.eq_of_beq_eq_true rfl)) rfl rfl ⟨rfl, trivial⟩ ?_)
  (refine r_pure (a_assign (r := .p _)) rfl rfl ?_)
  refine arun_nil ?_
  refine awp_seq ?_
  refine awp_text (by kernel_rfl) ?_
  (refine r_pure (b_fieldAddr fi66_0 rfl) rfl rfl ?_)
  (refine r_run (a_load1 Try.underlying3 rfl (by first | rfl | assumption)) rfl rfl ⟨rfl, trivial⟩ ?_)
  (refine r_pure (a_conv Try.underlying3 Try.underlying5 (show _ = (4 : Int) from rfl)) rfl rfl ?_)
  (refine r_run (xs := [.p (.v (.int .u8 4)), .p (.v (.int .u8 0)), .p (.v (.int .u8 0)), .p (.v (.int .u8 0))]) (a_buildSlice (es := [.p (.v (.int .u8 4)), .p (.v (.int .u8 0)), .p (.v (.int .u8 0)), .p (.v (.int .u8 0))]) (cs := (bs [4, 0, 0, 0])) 22 Try.underlying42 sz5 zc5 (Nat.le_of_ble_eq_true rfl) (Nat.le_of_ble_eq_true rfl) rfl (by kernel_rfl) (by kernel_rfl) (by kernel_rfl) (Nat.le_of_ble_eq_true rfl)) (by first | rfl | kernel_rfl) rfl ⟨rfl, trivial⟩ ?_)
  (refine r_pure (a_assign (r := .row _)) rfl rfl ?_)
  refine arun_nil ?_
  refine thn_n (awp_re (re_of (fun o => bif Nat.beq o 7 then 22 else o) [(1, .ref 1 0), (5, .ref 5 0), (7, .row 7)] [(1, .box 66 [.p (.v (.int .i64 4)), .p (.v (.int .i64 (S : Nat))), .p (.v (.int .i64 (R : Nat))), .p (.v (.int .i64 (C : Nat))), .p (.sl n 1 (bs xs))]), (5, .box 113 (SH.cells ⟨16, 236, false, true, true, true⟩)), (7, .row 5 1 4 (bs ([4, 0, 0, 0])))] ⟨⟨rfl, rfl⟩, ⟨rfl, rfl⟩, ⟨rfl, rfl⟩, trivial⟩ ⟨⟨rfl, rfl⟩, ⟨rfl, rfl⟩, ⟨rfl, rfl⟩, trivial⟩ rfl) ?_)
  refine awp_seq (awp_seq ?_)
  refine awp_text (by kernel_rfl) ?_
  (refine r_pure (b_fieldAddr fi113_2 rfl) rfl rfl ?_)
  (refine r_run (a_load1 Try.underlying4 rfl (by first | rfl | assumption)) rfl rfl ⟨rfl, trivial⟩ ?_)
  refine arun_nil ?_
  refine thn_n ?_
  refine awp_cond _ rfl (fun h => ?_) (fun h => ?_)
  · cases h
  clear h
  refine awp_skip (awp_seq (awp_seq ?_))
  refine awp_text (by kernel_rfl) ?_
  (refine r_pure (b_fieldAddr fi113_3 rfl) rfl rfl ?_)
  (refine r_run (a_load1 Try.underlying4 rfl (by first | rfl | assumption)) rfl rfl ⟨rfl, trivial⟩ ?_)
  refine arun_nil ?_
  refine thn_n ?_
  refine awp_cond _ rfl (fun h => ?_) (fun h => ?_)
  rotate_left
  · cases h
  clear h
  have w1 : FnO Try.prog 92 [.row 7, .p (.v (.int .i64 (R : Nat))), .p (.v (.int .i64 4))] ((7, .live (.row 5 1 4 (bs ([4, 0, 0, 0])))) :: [(100, .un), (101, .un), (102, .un), (103, .un), (104, .un), (105, .un), (106, .un), (107, .un)]) ((107, .live (.row 5 1 8 (bs ([4, 0, 0, 0] ++ leN 4 R)))) :: (7, .dead) :: [(100, .dead), (101, .dead), (102, .dead), (103, .dead), (104, .dead), (105, .dead), (106, .dead)]) (.row 107) := (put4_s 4 ([4, 0, 0, 0]) R (by simp [leN_len]) (by omega) (by omega)).renamed [(1, 7)] rfl
  skip
  refine awp_text (by kernel_rfl) ?_
  (refine r_pure (a_move (r := .row _)) rfl rfl ?_)
  (refine r_pure (b_fieldAddr fi66_2 rfl) rfl rfl ?_)
  (refine r_run (a_load1 Try.underlying3 rfl (by first | rfl | assumption)) rfl rfl ⟨rfl, trivial⟩ ?_)
  (refine r_callO0 (w1) rfl rfl Try.func92 rfl rfl (by repeat (first | exact trivial | refine ⟨rfl, ?_⟩)) rfl ?_)
  (refine r_pure (a_assign (r := .row _)) rfl rfl ?_)
  refine arun_nil ?_
  refine awp_seq (awp_seq ?_)
  refine awp_re (re_of (fun o => bif Nat.beq o 7 then 107 else o) [(1, .ref 1 0), (5, .ref 5 0), (7, .row 7)] [(1, .box 66 [.p (.v (.int .i64 4)), .p (.v (.int .i64 (S : Nat))), .p (.v (.int .i64 (R : Nat))), .p (.v (.int .i64 (C : Nat))), .p (.sl n 1 (bs xs))]), (5, .box 113 (SH.cells ⟨16, 236, false, true, true, true⟩)), (7, .row 5 1 8 (bs ([4, 0, 0, 0] ++ leN 4 R)))] ⟨⟨rfl, rfl⟩, ⟨rfl, rfl⟩, ⟨rfl, rfl⟩, trivial⟩ ⟨⟨rfl, rfl⟩, ⟨rfl, rfl⟩, ⟨rfl, rfl⟩, trivial⟩ rfl) ?_
  skip
  refine awp_text (by kernel_rfl) ?_
  (refine r_pure (b_fieldAddr fi113_4 rfl) rfl rfl ?_)
  (refine r_run (a_load1 Try.underlying4 rfl (by first | rfl | assumption)) rfl rfl ⟨rfl, trivial⟩ ?_)
  refine arun_nil ?_
  refine thn_n ?_
  refine awp_cond _ rfl (fun h => ?_) (fun h => ?_)
  rotate_left
  · cases h
  clear h
  have w2 : FnO Try.prog 92 [.row 7, .p (.v (.int .i64 (C : Nat))), .p (.v (.int .i64 8))] ((7, .live (.row 5 1 8 (bs ([4, 0, 0, 0] ++ leN 4 R)))) :: [(100, .un), (101, .un), (102, .un), (103, .un), (104, .un), (105, .un), (106, .un), (107, .un), (108, .un), (109, .un), (110, .un), (111, .un), (112, .un), (113, .un), (114, .un), (115, .un)]) ((115, .live (.row 5 1 16 (bs ([4, 0, 0, 0] ++ leN 4 R ++ leN 8 C)))) :: (7, .dead) :: [(100, .dead), (101, .dead), (102, .dead), (103, .dead), (104, .dead), (105, .dead), (106, .dead), (107, .dead), (108, .dead), (109, .dead), (110, .dead), (111, .dead), (112, .dead), (113, .dead), (114, .dead)]) (.row 115) := (put8_s 8 ([4, 0, 0, 0] ++ leN 4 R) C (by simp [leN_len]) (by omega) (by omega)).renamed [(1, 7)] rfl
  skip
  refine awp_text (by kernel_rfl) ?_
  (refine r_pure (a_move (r := .row _)) rfl rfl ?_)
  (refine r_pure (b_fieldAddr fi66_3 rfl) rfl rfl ?_)
  (refine r_run (a_load1 Try.underlying3 rfl (by first | rfl | assumption)) rfl rfl ⟨rfl, trivial⟩ ?_)
  (refine r_callO0 (w2) rfl rfl Try.func92 rfl rfl (by repeat (first | exact trivial | refine ⟨rfl, ?_⟩)) rfl ?_)
  (refine r_pure (a_assign (r := .row _)) rfl rfl ?_)
  refine arun_nil ?_
  refine awp_seq ?_
  refine awp_re (re_of (fun o => bif Nat.beq o 7 then 115 else o) [(1, .ref 1 0), (5, .ref 5 0), (7, .row 7)] [(1, .box 66 [.p (.v (.int .i64 4)), .p (.v (.int .i64 (S : Nat))), .p (.v (.int .i64 (R : Nat))), .p (.v (.int .i64 (C : Nat))), .p (.sl n 1 (bs xs))]), (5, .box 113 (SH.cells ⟨16, 236, false, true, true, true⟩)), (7, .row 5 1 16 (bs ([4, 0, 0, 0] ++ leN 4 R ++ leN 8 C)))] ⟨⟨rfl, rfl⟩, ⟨rfl, rfl⟩, ⟨rfl, rfl⟩, trivial⟩ ⟨⟨rfl, rfl⟩, ⟨rfl, rfl⟩, ⟨rfl, rfl⟩, trivial⟩ rfl) ?_
  have hK := clone_s 16 ([4, 0, 0, 0] ++ leN 4 R ++ leN 8 C) (by simp [leN_len]) (by omega)
  skip
  refine awp_draw 6 (by kernel_rfl) ?_
  (refine r_pure (a_move (r := .row _)) rfl rfl ?_)
  (refine r_callV (fun n => 42 + 1000 * n) (hK) rfl rfl Try.func79 rfl rfl (by first | rfl | simp [AV.noSl, AV.noSlL, AObj.noSl, PV.isV, bs_noSl]) (by first | rfl | simp [AV.noSl, AV.noSlL, AObj.noSl, PV.isV, bs_noSl]) rfl rfl rfl (by first | exact trivial | exact ⟨rfl, trivial⟩ | exact ⟨rfl, rfl, trivial⟩) rfl rfl rfl ?_)
  (refine r_pure (b_fieldAddr fi66_4 rfl) rfl rfl ?_)
  (refine r_run (a_load1 Try.underlying42 rfl (by first | rfl | assumption)) rfl rfl ⟨rfl, trivial⟩ ?_)
  (refine r_run (a_append 45 Try.underlying42 eo5 (src_sl) (by simp only [maxLen]; omega) (by omega) (show _ = 16 + n by omega) bs_appd) rfl rfl ⟨rfl, rfl, trivial⟩ ?_)
  (refine r_pure (a_assign (r := .row _)) rfl rfl ?_)
  (refine r_pure (a_assign (r := .p _)) rfl rfl ?_)
  refine arun_nil ⟨by kernel_rfl, ?_⟩
  refine awp_ret ?_
  refine ⟨(by first | exact .inl rfl | exact .inr rfl), _, (fun _ => 45), (.tmp _ _ _ _ rfl (.tmp _ _ _ _ rfl .nil)), ?_, rfl, ?_, rfl⟩
  · exact rfl
  · exact ⟨⟨rfl, rfl⟩, trivial⟩

end Go.Proofs.Ytfnipohlkifkhaa
