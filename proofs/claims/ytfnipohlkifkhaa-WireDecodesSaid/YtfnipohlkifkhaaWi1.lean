/- package wire: of, Check, put, Encode, over data. -/
import Derived.Test.YtfnipohlkifkhaaCl
namespace Go.Proofs.Ytfnipohlkifkhaa
open Go.RowKit Go.Sort
set_option linter.unusedVariables false
set_option linter.unusedSimpArgs false
set_option maxRecDepth 100000

structure SH where
  lo : Int
  hi : Int
  s : Bool
  r : Bool
  c : Bool
  ok : Bool
def ofS (t : Int) : SH := if t = 1 then ⟨32, 32, true, false, false, true⟩ else if t = 2 then ⟨24, 24, true, true, false, true⟩ else if t = 4 then ⟨16, 236, false, true, true, true⟩ else ⟨0, 0, false, false, false, false⟩
def SH.cells (x : SH) : List AV := [.p (.v (.int .i64 x.lo)), .p (.v (.int .i64 x.hi)), .p (.v (.bool x.s)), .p (.v (.bool x.r)), .p (.v (.bool x.c))]
theorem of_s (t : Int) : Fn Try.prog 91 [.p (.v (.int .i64 t))] (.tup [.agg (ofS t).cells, .p (.v (.bool (ofS t).ok))]) [] := by
  unfold ofS
  refine fn_intro Try.func91 rfl (Nat.le_of_ble_eq_true rfl) fun w0 A => ?_
  refine awp_seq ?_
  refine awp_text (by kernel_rfl) ?_
  (refine r_run (a_alloc 2 zr113 rfl) rfl rfl ⟨rfl, trivial⟩ ?_)
  (refine r_pure (a_assign (r := .p _)) rfl rfl ?_)
  refine arun_nil ?_
  refine awp_seq (awp_seq ?_)
  refine awp_text (by kernel_rfl) ?_
  (refine r_pure (a_move (r := .p _)) rfl rfl ?_)
  refine arun_nil ?_
  refine awp_block (awp_seq ?_)
  refine awp_text (by kernel_rfl) ?_
  (refine r_pure a_eql rfl rfl ?_)
  (refine r_pure (a_assign (r := .p _)) rfl rfl ?_)
  refine arun_nil ?_
  refine thn_n ?_
  refine awp_cond _ rfl (fun h => ?_) (fun h => ?_)
  · have h1 : t = 1 := by simpa using h
    rw [if_pos h1]
    refine awp_seq ?_
    refine awp_text (by kernel_rfl) ?_
    (refine r_pure (b_build pl113 zr113 rfl rfl) rfl rfl ?_)
    (refine r_run (a_storeAll (Y := .agg _) sz113 rfl (by first | exact Nat.eq_of_beq_eq_true rfl | (simp only [AV.cells, List.length_map]; first | assumption | omega)) (Nat.eq_of_beq_eq_true rfl)) rfl rfl ⟨rfl, trivial⟩ ?_)
    (refine r_pure (a_assign (r := .p _)) rfl rfl ?_)
    refine arun_nil ?_
    refine awp_ret (inb_r (thn_r ?_))
    refine ⟨(by first | exact .inl rfl | exact .inr rfl), _, (fun o => o), (.cellN _ _ _ _ _ _ _ _ _ rfl rfl Try.underlying113 rfl sz113 (by first | assumption | kernel_rfl) (.tmp _ _ _ _ rfl .nil)), ?_, rfl, ?_, rfl⟩
    · exact rfl
    · exact trivial
  have h1 : ¬ t = 1 := by simpa using h
  clear h
  rw [if_neg h1]
  refine awp_seq ?_
  refine awp_text (by kernel_rfl) ?_
  (refine r_pure a_eql rfl rfl ?_)
  (refine r_pure (a_assign (r := .p _)) rfl rfl ?_)
  refine arun_nil ?_
  refine thn_n ?_
  refine awp_cond _ rfl (fun h => ?_) (fun h => ?_)
  · have h2 : t = 2 := by simpa using h
    rw [if_pos h2]
    refine awp_seq ?_
    refine awp_text (by kernel_rfl) ?_
    (refine r_pure (b_build pl113 zr113 rfl rfl) rfl rfl ?_)
    (refine r_run (a_storeAll (Y := .agg _) sz113 rfl (by first | exact Nat.eq_of_beq_eq_true rfl | (simp only [AV.cells, List.length_map]; first | assumption | omega)) (Nat.eq_of_beq_eq_true rfl)) rfl rfl ⟨rfl, trivial⟩ ?_)
    (refine r_pure (a_assign (r := .p _)) rfl rfl ?_)
    refine arun_nil ?_
    refine awp_ret (inb_r (thn_r ?_))
    refine ⟨(by first | exact .inl rfl | exact .inr rfl), _, (fun o => o), (.cellN _ _ _ _ _ _ _ _ _ rfl rfl Try.underlying113 rfl sz113 (by first | assumption | kernel_rfl) (.tmp _ _ _ _ rfl .nil)), ?_, rfl, ?_, rfl⟩
    · exact rfl
    · exact trivial
  have h2 : ¬ t = 2 := by simpa using h
  clear h
  rw [if_neg h2]
  refine awp_seq ?_
  refine awp_text (by kernel_rfl) ?_
  (refine r_pure a_eql rfl rfl ?_)
  (refine r_pure (a_assign (r := .p _)) rfl rfl ?_)
  refine arun_nil ?_
  refine thn_n ?_
  refine awp_cond _ rfl (fun h => ?_) (fun h => ?_)
  · have h3 : t = 4 := by simpa using h
    rw [if_pos h3]
    refine awp_seq ?_
    refine awp_text (by kernel_rfl) ?_
    (refine r_pure (b_build pl113 zr113 rfl rfl) rfl rfl ?_)
    (refine r_run (a_storeAll (Y := .agg _) sz113 rfl (by first | exact Nat.eq_of_beq_eq_true rfl | (simp only [AV.cells, List.length_map]; first | assumption | omega)) (Nat.eq_of_beq_eq_true rfl)) rfl rfl ⟨rfl, trivial⟩ ?_)
    (refine r_pure (a_assign (r := .p _)) rfl rfl ?_)
    refine arun_nil ?_
    refine awp_ret (inb_r (thn_r ?_))
    refine ⟨(by first | exact .inl rfl | exact .inr rfl), _, (fun o => o), (.cellN _ _ _ _ _ _ _ _ _ rfl rfl Try.underlying113 rfl sz113 (by first | assumption | kernel_rfl) (.tmp _ _ _ _ rfl .nil)), ?_, rfl, ?_, rfl⟩
    · exact rfl
    · exact trivial
  have h3 : ¬ t = 4 := by simpa using h
  clear h
  rw [if_neg h3]
  refine awp_skip (awp_seq ?_)
  refine awp_text (by kernel_rfl) ?_
  (refine r_pure (b_build pl113 zr113 rfl rfl) rfl rfl ?_)
  (refine r_run (a_storeAll (Y := .agg _) sz113 rfl (by first | exact Nat.eq_of_beq_eq_true rfl | (simp only [AV.cells, List.length_map]; first | assumption | omega)) (Nat.eq_of_beq_eq_true rfl)) rfl rfl ⟨rfl, trivial⟩ ?_)
  (refine r_pure (a_assign (r := .p _)) rfl rfl ?_)
  refine arun_nil ?_
  refine awp_ret ?_
  refine ⟨(by first | exact .inl rfl | exact .inr rfl), _, (fun o => o), (.cellN _ _ _ _ _ _ _ _ _ rfl rfl Try.underlying113 rfl sz113 (by first | assumption | kernel_rfl) (.tmp _ _ _ _ rfl .nil)), ?_, rfl, ?_, rfl⟩
  · exact rfl
  · exact trivial

/-- a message -/
structure MS where
  t : Int
  s : Int
  r : Int
  c : Int
  n : Nat
  xs : List Int
def MS.cells (m : MS) : List AV := [.p (.v (.int .i64 m.t)), .p (.v (.int .i64 m.s)), .p (.v (.int .i64 m.r)), .p (.v (.int .i64 m.c)), .p (.sl m.n 1 (bs m.xs))]
def MS.pv (m : MS) : List PV := [.v (.int .i64 m.t), .v (.int .i64 m.s), .v (.int .i64 m.r), .v (.int .i64 m.c), .sl m.n 1 (bs m.xs)]
def formB (x : SH) (m : MS) : Bool := ((!x.s && (m.s != 0)) || (!x.r && (m.r != 0))) || (!x.c && (m.c != 0))
def rngB (m : MS) : Bool := ((((decide (m.s < 0) || decide (4294967295 < m.s)) || decide (m.r < 0)) || decide (4294967295 < m.r)) || decide (m.c < 0)) || decide (1099511627776 < m.c)
def sizB (x : SH) (m : MS) : Bool := decide ((m.n : Int) < x.lo) || decide (x.hi < (m.n : Int))
def wE (m : MS) : Int := if (ofS m.t).ok = false then 2 else if formB (ofS m.t) m = true then 3 else if rngB m = true then 4 else if sizB (ofS m.t) m = true then 1 else 0

set_option maxHeartbeats 2000000 in
theorem wcheck_s (m : MS) (hn : m.n ≤ 140737488355328) : Fn Try.prog 45 [.agg m.cells] (.p (.v (.int .i64 (wE m)))) [] := by
  have hO := of_s m.t
  unfold wE
  generalize ofS m.t = x at *
  refine fn_intro Try.func45 rfl (Nat.le_of_ble_eq_true rfl) fun w0 A => ?_
  refine awp_seq ?_
  refine awp_text (by kernel_rfl) ?_
  (refine r_run (a_box (X := .agg _) 1 rfl) rfl rfl ⟨rfl, trivial⟩ ?_)
  (refine r_pure (a_assign (r := .p _)) rfl rfl ?_)
  refine arun_nil ?_
  refine awp_seq ?_
  refine awp_text (by kernel_rfl) ?_
  (refine r_pure (b_fieldAddr fi66_0 rfl) rfl rfl ?_)
  (refine r_run (a_load1 Try.underlying3 rfl (by first | rfl | assumption)) rfl rfl ⟨rfl, trivial⟩ ?_)
  (refine r_callV (fun n => 8 + 1000 * n) (hO) rfl rfl Try.func91 rfl rfl (by first | rfl | simp [AV.noSl, AV.noSlL, AObj.noSl, PV.isV, bs_noSl]) (by first | rfl | simp [AV.noSl, AV.noSlL, AObj.noSl, PV.isV, bs_noSl]) rfl rfl rfl (by first | exact trivial | exact ⟨rfl, trivial⟩ | exact ⟨rfl, rfl, trivial⟩) rfl rfl rfl ?_)
  (refine r_pure (a_move (r := .tup _)) rfl rfl ?_)
  (refine r_pure (a_extract rfl) rfl rfl ?_)
  (refine r_pure (a_extract rfl) rfl rfl ?_)
  (refine r_run (a_alloc 3 zr113 rfl) rfl rfl ⟨rfl, trivial⟩ ?_)
  (refine r_run (a_storeAll (Y := .agg _) sz113 rfl (by first | exact Nat.eq_of_beq_eq_true rfl | (simp only [AV.cells, List.length_map]; first | assumption | omega)) (Nat.eq_of_beq_eq_true rfl)) rfl rfl ⟨rfl, trivial⟩ ?_)
  (refine r_pure (a_assign (r := .p _)) rfl rfl ?_)
  refine arun_nil ?_
  refine awp_seq (awp_seq ?_)
  refine awp_text (by kernel_rfl) ?_
  (refine r_pure (a_move (r := .p _)) rfl rfl ?_)
  (refine r_pure a_not rfl rfl ?_)
  refine arun_nil ?_
  refine thn_n ?_
  refine awp_cond _ rfl (fun h => ?_) (fun h => ?_)
  · have h1 : x.ok = false := by simpa using h
    rw [if_pos h1]
    refine awp_seq ?_
    refine awp_text (by kernel_rfl) ?_
    (refine r_pure (a_assign (r := .p _)) rfl rfl ?_)
    refine arun_nil ?_
    refine awp_ret (thn_r ?_)
    refine ⟨(by first | exact .inl rfl | exact .inr rfl), _, (fun o => o), (.tmp _ _ _ _ rfl .nil), ?_, rfl, ?_, rfl⟩
    · exact rfl
    · exact trivial
  have h1 : ¬ x.ok = false := by simpa using h
  clear h
  rw [if_neg h1]
  refine awp_skip (awp_seq (awp_seq ?_))
  refine awp_text (by kernel_rfl) ?_
  (refine r_pure (b_fieldAddr fi113_2 rfl) rfl rfl ?_)
  (refine r_run (a_load1 Try.underlying4 rfl (by first | rfl | assumption)) rfl rfl ⟨rfl, trivial⟩ ?_)
  (refine r_pure a_not rfl rfl ?_)
  (refine r_pure (a_move (r := .p _)) rfl rfl ?_)
  (refine r_mb2 _ rfl rfl (by (repeat (first | exact stripOK_nil | refine stripOK_mb id ?_ | refine stripOK_p ?_ | refine stripOK_ref ?_ | refine stripOK_row ?_ | refine stripOK_ptr ?_ | refine stripOK_agg ?_ | refine stripOK_mb (by simp_all) ?_ | refine StripOK.plain _ _ rfl ?_))) (fun hb => (b_fieldAddr fi66_1 rfl)) (fun _ => trivial) ?_)
  (refine r_mb2 _ rfl rfl (by (repeat (first | exact stripOK_nil | refine stripOK_mb id ?_ | refine stripOK_p ?_ | refine stripOK_ref ?_ | refine stripOK_row ?_ | refine stripOK_ptr ?_ | refine stripOK_agg ?_ | refine stripOK_mb (by simp_all) ?_ | refine StripOK.plain _ _ rfl ?_))) (fun hb => (a_load1 Try.underlying3 rfl (by first | rfl | assumption))) (fun _ => ⟨rfl, trivial⟩) ?_)
  (refine r_mb2 _ rfl rfl (by (repeat (first | exact stripOK_nil | refine stripOK_mb id ?_ | refine stripOK_p ?_ | refine stripOK_ref ?_ | refine stripOK_row ?_ | refine stripOK_ptr ?_ | refine stripOK_agg ?_ | refine stripOK_mb (by simp_all) ?_ | refine StripOK.plain _ _ rfl ?_))) (fun hb => a_neq) (fun _ => trivial) ?_)
  (refine r_pure (a_and (by first | exact id | (simp; done) | grind)) rfl rfl ?_)
  (refine r_pure (a_move (r := .p _)) rfl rfl ?_)
  (refine r_mb2 _ rfl rfl (by (repeat (first | exact stripOK_nil | refine stripOK_mb id ?_ | refine stripOK_p ?_ | refine stripOK_ref ?_ | refine stripOK_row ?_ | refine stripOK_ptr ?_ | refine stripOK_agg ?_ | refine stripOK_mb (by simp_all) ?_ | refine StripOK.plain _ _ rfl ?_))) (fun hb => (b_fieldAddr fi113_3 rfl)) (fun _ => trivial) ?_)
  (refine r_mb2 _ rfl rfl (by (repeat (first | exact stripOK_nil | refine stripOK_mb id ?_ | refine stripOK_p ?_ | refine stripOK_ref ?_ | refine stripOK_row ?_ | refine stripOK_ptr ?_ | refine stripOK_agg ?_ | refine stripOK_mb (by simp_all) ?_ | refine StripOK.plain _ _ rfl ?_))) (fun hb => (a_load1 Try.underlying4 rfl (by first | rfl | assumption))) (fun _ => ⟨rfl, trivial⟩) ?_)
  (refine r_mb2 _ rfl rfl (by (repeat (first | exact stripOK_nil | refine stripOK_mb id ?_ | refine stripOK_p ?_ | refine stripOK_ref ?_ | refine stripOK_row ?_ | refine stripOK_ptr ?_ | refine stripOK_agg ?_ | refine stripOK_mb (by simp_all) ?_ | refine StripOK.plain _ _ rfl ?_))) (fun hb => a_not) (fun _ => trivial) ?_)
  (refine r_mb2 _ rfl rfl (by (repeat (first | exact stripOK_nil | refine stripOK_mb id ?_ | refine stripOK_p ?_ | refine stripOK_ref ?_ | refine stripOK_row ?_ | refine stripOK_ptr ?_ | refine stripOK_agg ?_ | refine stripOK_mb (by simp_all) ?_ | refine StripOK.plain _ _ rfl ?_))) (fun hb => (a_move (r := .p _))) (fun _ => trivial) ?_)
  (refine r_mb2 _ rfl rfl (by (repeat (first | exact stripOK_nil | refine stripOK_mb id ?_ | refine stripOK_p ?_ | refine stripOK_ref ?_ | refine stripOK_row ?_ | refine stripOK_ptr ?_ | refine stripOK_agg ?_ | refine stripOK_mb (by simp_all) ?_ | refine StripOK.plain _ _ rfl ?_))) (fun hb => (b_fieldAddr fi66_2 rfl)) (fun _ => trivial) ?_)
  (refine r_mb2 _ rfl rfl (by (repeat (first | exact stripOK_nil | refine stripOK_mb id ?_ | refine stripOK_p ?_ | refine stripOK_ref ?_ | refine stripOK_row ?_ | refine stripOK_ptr ?_ | refine stripOK_agg ?_ | refine stripOK_mb (by simp_all) ?_ | refine StripOK.plain _ _ rfl ?_))) (fun hb => (a_load1 Try.underlying3 rfl (by first | rfl | assumption))) (fun _ => ⟨rfl, trivial⟩) ?_)
  (refine r_mb2 _ rfl rfl (by (repeat (first | exact stripOK_nil | refine stripOK_mb id ?_ | refine stripOK_p ?_ | refine stripOK_ref ?_ | refine stripOK_row ?_ | refine stripOK_ptr ?_ | refine stripOK_agg ?_ | refine stripOK_mb (by simp_all) ?_ | refine StripOK.plain _ _ rfl ?_))) (fun hb => a_neq) (fun _ => trivial) ?_)
  (refine r_mb3 _ rfl rfl (.mb _ _ _ _ (by first | exact id | simp_all) (.keep _ _ _ (.keep _ _ _ .nil))) (fun hb => (a_and (by first | exact id | (simp_all; done) | grind))) (fun _ => trivial) ?_)
  (refine r_pure (a_or (by first | exact id | (simp; done) | grind)) rfl rfl ?_)
  (refine r_pure (a_move (r := .p _)) rfl rfl ?_)
  (refine r_mb2 _ rfl rfl (by (repeat (first | exact stripOK_nil | refine stripOK_mb id ?_ | refine stripOK_p ?_ | refine stripOK_ref ?_ | refine stripOK_row ?_ | refine stripOK_ptr ?_ | refine stripOK_agg ?_ | refine stripOK_mb (by simp_all) ?_ | refine StripOK.plain _ _ rfl ?_))) (fun hb => (b_fieldAddr fi113_4 rfl)) (fun _ => trivial) ?_)
  (refine r_mb2 _ rfl rfl (by (repeat (first | exact stripOK_nil | refine stripOK_mb id ?_ | refine stripOK_p ?_ | refine stripOK_ref ?_ | refine stripOK_row ?_ | refine stripOK_ptr ?_ | refine stripOK_agg ?_ | refine stripOK_mb (by simp_all) ?_ | refine StripOK.plain _ _ rfl ?_))) (fun hb => (a_load1 Try.underlying4 rfl (by first | rfl | assumption))) (fun _ => ⟨rfl, trivial⟩) ?_)
  (refine r_mb2 _ rfl rfl (by (repeat (first | exact stripOK_nil | refine stripOK_mb id ?_ | refine stripOK_p ?_ | refine stripOK_ref ?_ | refine stripOK_row ?_ | refine stripOK_ptr ?_ | refine stripOK_agg ?_ | refine stripOK_mb (by simp_all) ?_ | refine StripOK.plain _ _ rfl ?_))) (fun hb => a_not) (fun _ => trivial) ?_)
  (refine r_mb2 _ rfl rfl (by (repeat (first | exact stripOK_nil | refine stripOK_mb id ?_ | refine stripOK_p ?_ | refine stripOK_ref ?_ | refine stripOK_row ?_ | refine stripOK_ptr ?_ | refine stripOK_agg ?_ | refine stripOK_mb (by simp_all) ?_ | refine StripOK.plain _ _ rfl ?_))) (fun hb => (a_move (r := .p _))) (fun _ => trivial) ?_)
  (refine r_mb2 _ rfl rfl (by (repeat (first | exact stripOK_nil | refine stripOK_mb id ?_ | refine stripOK_p ?_ | refine stripOK_ref ?_ | refine stripOK_row ?_ | refine stripOK_ptr ?_ | refine stripOK_agg ?_ | refine stripOK_mb (by simp_all) ?_ | refine StripOK.plain _ _ rfl ?_))) (fun hb => (b_fieldAddr fi66_3 rfl)) (fun _ => trivial) ?_)
  (refine r_mb2 _ rfl rfl (by (repeat (first | exact stripOK_nil | refine stripOK_mb id ?_ | refine stripOK_p ?_ | refine stripOK_ref ?_ | refine stripOK_row ?_ | refine stripOK_ptr ?_ | refine stripOK_agg ?_ | refine stripOK_mb (by simp_all) ?_ | refine StripOK.plain _ _ rfl ?_))) (fun hb => (a_load1 Try.underlying3 rfl (by first | rfl | assumption))) (fun _ => ⟨rfl, trivial⟩) ?_)
  (refine r_mb2 _ rfl rfl (by (repeat (first | exact stripOK_nil | refine stripOK_mb id ?_ | refine stripOK_p ?_ | refine stripOK_ref ?_ | refine stripOK_row ?_ | refine stripOK_ptr ?_ | refine stripOK_agg ?_ | refine stripOK_mb (by simp_all) ?_ | refine StripOK.plain _ _ rfl ?_))) (fun hb => a_neq) (fun _ => trivial) ?_)
  (refine r_mb3 _ rfl rfl (.mb _ _ _ _ (by first | exact id | simp_all) (.keep _ _ _ (.keep _ _ _ .nil))) (fun hb => (a_and (by first | exact id | (simp_all; done) | grind))) (fun _ => trivial) ?_)
  (refine r_pure (a_or (by first | exact id | (simp; done) | grind)) rfl rfl ?_)
  refine arun_nil ?_
  refine thn_n ?_
  refine awp_cond _ rfl (fun h => ?_) (fun h => ?_)
  · rw [if_pos (show formB x m = true from h)]
    refine awp_seq ?_
    refine awp_text (by kernel_rfl) ?_
    (refine r_pure (a_assign (r := .p _)) rfl rfl ?_)
    refine arun_nil ?_
    refine awp_ret (thn_r ?_)
    refine ⟨(by first | exact .inl rfl | exact .inr rfl), _, (fun o => o), (.tmp _ _ _ _ rfl .nil), ?_, rfl, ?_, rfl⟩
    · exact rfl
    · exact trivial
  rw [if_neg (show ¬ formB x m = true by have h' : formB x m = false := h; simp [h'])]
  clear h
  refine awp_skip (awp_seq (awp_seq ?_))
  refine awp_text (by kernel_rfl) ?_
  (refine r_pure (b_fieldAddr fi66_1 rfl) rfl rfl ?_)
  (refine r_run (a_load1 Try.underlying3 rfl (by first | rfl | assumption)) rfl rfl ⟨rfl, trivial⟩ ?_)
  (refine r_pure a_lss rfl rfl ?_)
  (refine r_pure (a_move (r := .p _)) rfl rfl ?_)
  (refine r_mb2 _ rfl rfl (by (repeat (first | exact stripOK_nil | refine stripOK_mb id ?_ | refine stripOK_p ?_ | refine stripOK_ref ?_ | refine stripOK_row ?_ | refine stripOK_ptr ?_ | refine stripOK_agg ?_ | refine stripOK_mb (by simp_all) ?_ | refine StripOK.plain _ _ rfl ?_))) (fun hb => (b_fieldAddr fi66_1 rfl)) (fun _ => trivial) ?_)
  (refine r_mb2 _ rfl rfl (by (repeat (first | exact stripOK_nil | refine stripOK_mb id ?_ | refine stripOK_p ?_ | refine stripOK_ref ?_ | refine stripOK_row ?_ | refine stripOK_ptr ?_ | refine stripOK_agg ?_ | refine stripOK_mb (by simp_all) ?_ | refine StripOK.plain _ _ rfl ?_))) (fun hb => (a_load1 Try.underlying3 rfl (by first | rfl | assumption))) (fun _ => ⟨rfl, trivial⟩) ?_)
  (refine r_mb2 _ rfl rfl (by (repeat (first | exact stripOK_nil | refine stripOK_mb id ?_ | refine stripOK_p ?_ | refine stripOK_ref ?_ | refine stripOK_row ?_ | refine stripOK_ptr ?_ | refine stripOK_agg ?_ | refine stripOK_mb (by simp_all) ?_ | refine StripOK.plain _ _ rfl ?_))) (fun hb => a_gtr) (fun _ => trivial) ?_)
  (refine r_pure (a_or (by first | exact id | (simp; done) | grind)) rfl rfl ?_)
  (refine r_pure (a_move (r := .p _)) rfl rfl ?_)
  (refine r_mb2 _ rfl rfl (by (repeat (first | exact stripOK_nil | refine stripOK_mb id ?_ | refine stripOK_p ?_ | refine stripOK_ref ?_ | refine stripOK_row ?_ | refine stripOK_ptr ?_ | refine stripOK_agg ?_ | refine stripOK_mb (by simp_all) ?_ | refine StripOK.plain _ _ rfl ?_))) (fun hb => (b_fieldAddr fi66_2 rfl)) (fun _ => trivial) ?_)
  (refine r_mb2 _ rfl rfl (by (repeat (first | exact stripOK_nil | refine stripOK_mb id ?_ | refine stripOK_p ?_ | refine stripOK_ref ?_ | refine stripOK_row ?_ | refine stripOK_ptr ?_ | refine stripOK_agg ?_ | refine stripOK_mb (by simp_all) ?_ | refine StripOK.plain _ _ rfl ?_))) (fun hb => (a_load1 Try.underlying3 rfl (by first | rfl | assumption))) (fun _ => ⟨rfl, trivial⟩) ?_)
  (refine r_mb2 _ rfl rfl (by (repeat (first | exact stripOK_nil | refine stripOK_mb id ?_ | refine stripOK_p ?_ | refine stripOK_ref ?_ | refine stripOK_row ?_ | refine stripOK_ptr ?_ | refine stripOK_agg ?_ | refine stripOK_mb (by simp_all) ?_ | refine StripOK.plain _ _ rfl ?_))) (fun hb => a_lss) (fun _ => trivial) ?_)
  (refine r_pure (a_or (by first | exact id | (simp; done) | grind)) rfl rfl ?_)
  (refine r_pure (a_move (r := .p _)) rfl rfl ?_)
  (refine r_mb2 _ rfl rfl (by (repeat (first | exact stripOK_nil | refine stripOK_mb id ?_ | refine stripOK_p ?_ | refine stripOK_ref ?_ | refine stripOK_row ?_ | refine stripOK_ptr ?_ | refine stripOK_agg ?_ | refine stripOK_mb (by simp_all) ?_ | refine StripOK.plain _ _ rfl ?_))) (fun hb => (b_fieldAddr fi66_2 rfl)) (fun _ => trivial) ?_)
  (refine r_mb2 _ rfl rfl (by (repeat (first | exact stripOK_nil | refine stripOK_mb id ?_ | refine stripOK_p ?_ | refine stripOK_ref ?_ | refine stripOK_row ?_ | refine stripOK_ptr ?_ | refine stripOK_agg ?_ | refine stripOK_mb (by simp_all) ?_ | refine StripOK.plain _ _ rfl ?_))) (fun hb => (a_load1 Try.underlying3 rfl (by first | rfl | assumption))) (fun _ => ⟨rfl, trivial⟩) ?_)
  (refine r_mb2 _ rfl rfl (by (repeat (first | exact stripOK_nil | refine stripOK_mb id ?_ | refine stripOK_p ?_ | refine stripOK_ref ?_ | refine stripOK_row ?_ | refine stripOK_ptr ?_ | refine stripOK_agg ?_ | refine stripOK_mb (by simp_all) ?_ | refine StripOK.plain _ _ rfl ?_))) (fun hb => a_gtr) (fun _ => trivial) ?_)
  (refine r_pure (a_or (by first | exact id | (simp; done) | grind)) rfl rfl ?_)
  (refine r_pure (a_move (r := .p _)) rfl rfl ?_)
  (refine r_mb2 _ rfl rfl (by (repeat (first | exact stripOK_nil | refine stripOK_mb id ?_ | refine stripOK_p ?_ | refine stripOK_ref ?_ | refine stripOK_row ?_ | refine stripOK_ptr ?_ | refine stripOK_agg ?_ | refine stripOK_mb (by simp_all) ?_ | refine StripOK.plain _ _ rfl ?_))) (fun hb => (b_fieldAddr fi66_3 rfl)) (fun _ => trivial) ?_)
  (refine r_mb2 _ rfl rfl (by (repeat (first | exact stripOK_nil | refine stripOK_mb id ?_ | refine stripOK_p ?_ | refine stripOK_ref ?_ | refine stripOK_row ?_ | refine stripOK_ptr ?_ | refine stripOK_agg ?_ | refine stripOK_mb (by simp_all) ?_ | refine StripOK.plain _ _ rfl ?_))) (fun hb => (a_load1 Try.underlying3 rfl (by first | rfl | assumption))) (fun _ => ⟨rfl, trivial⟩) ?_)
  (refine r_mb2 _ rfl rfl (by (repeat (first | exact stripOK_nil | refine stripOK_mb id ?_ | refine stripOK_p ?_ | refine stripOK_ref ?_ | refine stripOK_row ?_ | refine stripOK_ptr ?_ | refine stripOK_agg ?_ | refine stripOK_mb (by simp_all) ?_ | refine StripOK.plain _ _ rfl ?_))) (fun hb => a_lss) (fun _ => trivial) ?_)
  (refine r_pure (a_or (by first | exact id | (simp; done) | grind)) rfl rfl ?_)
  (refine r_pure (a_move (r := .p _)) rfl rfl ?_)
  (refine r_mb2 _ rfl rfl (by (repeat (first | exact stripOK_nil | refine stripOK_mb id ?_ | refine stripOK_p ?_ | refine stripOK_ref ?_ | refine stripOK_row ?_ | refine stripOK_ptr ?_ | refine stripOK_agg ?_ | refine stripOK_mb (by simp_all) ?_ | refine StripOK.plain _ _ rfl ?_))) (fun hb => (b_fieldAddr fi66_3 rfl)) (fun _ => trivial) ?_)
  (refine r_mb2 _ rfl rfl (by (repeat (first | exact stripOK_nil | refine stripOK_mb id ?_ | refine stripOK_p ?_ | refine stripOK_ref ?_ | refine stripOK_row ?_ | refine stripOK_ptr ?_ | refine stripOK_agg ?_ | refine stripOK_mb (by simp_all) ?_ | refine StripOK.plain _ _ rfl ?_))) (fun hb => (a_load1 Try.underlying3 rfl (by first | rfl | assumption))) (fun _ => ⟨rfl, trivial⟩) ?_)
  (refine r_mb2 _ rfl rfl (by (repeat (first | exact stripOK_nil | refine stripOK_mb id ?_ | refine stripOK_p ?_ | refine stripOK_ref ?_ | refine stripOK_row ?_ | refine stripOK_ptr ?_ | refine stripOK_agg ?_ | refine stripOK_mb (by simp_all) ?_ | refine StripOK.plain _ _ rfl ?_))) (fun hb => a_gtr) (fun _ => trivial) ?_)
  (refine r_pure (a_or (by first | exact id | (simp; done) | grind)) rfl rfl ?_)
  refine arun_nil ?_
  refine thn_n ?_
  refine awp_cond _ rfl (fun h => ?_) (fun h => ?_)
  · rw [if_pos (show rngB m = true from h)]
    refine awp_seq ?_
    refine awp_text (by kernel_rfl) ?_
    (refine r_pure (a_assign (r := .p _)) rfl rfl ?_)
    refine arun_nil ?_
    refine awp_ret (thn_r ?_)
    refine ⟨(by first | exact .inl rfl | exact .inr rfl), _, (fun o => o), (.tmp _ _ _ _ rfl .nil), ?_, rfl, ?_, rfl⟩
    · exact rfl
    · exact trivial
  rw [if_neg (show ¬ rngB m = true by have h' : rngB m = false := h; simp [h'])]
  clear h
  refine awp_skip (awp_seq (awp_seq ?_))
  refine awp_text (by kernel_rfl) ?_
  (refine r_pure (b_fieldAddr fi66_4 rfl) rfl rfl ?_)
  (refine r_run (a_load1 Try.underlying42 rfl (by first | rfl | assumption)) rfl rfl ⟨rfl, trivial⟩ ?_)
  (refine r_pure (a_lenS Try.underlying42) rfl rfl ?_)
  (refine r_pure (b_fieldAddr fi113_0 rfl) rfl rfl ?_)
  (refine r_run (a_load1 Try.underlying3 rfl (by first | rfl | assumption)) rfl rfl ⟨rfl, trivial⟩ ?_)
  (refine r_pure a_lss rfl rfl ?_)
  (refine r_pure (a_move (r := .p _)) rfl rfl ?_)
  (refine r_mb2 _ rfl rfl (by (repeat (first | exact stripOK_nil | refine stripOK_mb id ?_ | refine stripOK_p ?_ | refine stripOK_ref ?_ | refine stripOK_row ?_ | refine stripOK_ptr ?_ | refine stripOK_agg ?_ | refine stripOK_mb (by simp_all) ?_ | refine StripOK.plain _ _ rfl ?_))) (fun hb => (b_fieldAddr fi66_4 rfl)) (fun _ => trivial) ?_)
  (refine r_mb2 _ rfl rfl (by (repeat (first | exact stripOK_nil | refine stripOK_mb id ?_ | refine stripOK_p ?_ | refine stripOK_ref ?_ | refine stripOK_row ?_ | refine stripOK_ptr ?_ | refine stripOK_agg ?_ | refine stripOK_mb (by simp_all) ?_ | refine StripOK.plain _ _ rfl ?_))) (fun hb => (a_load1 Try.underlying42 rfl (by first | rfl | assumption))) (fun _ => ⟨rfl, trivial⟩) ?_)
  (refine r_mb2 _ rfl rfl (by (repeat (first | exact stripOK_nil | refine stripOK_mb id ?_ | refine stripOK_p ?_ | refine stripOK_ref ?_ | refine stripOK_row ?_ | refine stripOK_ptr ?_ | refine stripOK_agg ?_ | refine stripOK_mb (by simp_all) ?_ | refine StripOK.plain _ _ rfl ?_))) (fun hb => (a_lenS Try.underlying42)) (fun _ => trivial) ?_)
  (refine r_mb2 _ rfl rfl (by (repeat (first | exact stripOK_nil | refine stripOK_mb id ?_ | refine stripOK_p ?_ | refine stripOK_ref ?_ | refine stripOK_row ?_ | refine stripOK_ptr ?_ | refine stripOK_agg ?_ | refine stripOK_mb (by simp_all) ?_ | refine StripOK.plain _ _ rfl ?_))) (fun hb => (b_fieldAddr fi113_1 rfl)) (fun _ => trivial) ?_)
  (refine r_mb2 _ rfl rfl (by (repeat (first | exact stripOK_nil | refine stripOK_mb id ?_ | refine stripOK_p ?_ | refine stripOK_ref ?_ | refine stripOK_row ?_ | refine stripOK_ptr ?_ | refine stripOK_agg ?_ | refine stripOK_mb (by simp_all) ?_ | refine StripOK.plain _ _ rfl ?_))) (fun hb => (a_load1 Try.underlying3 rfl (by first | rfl | assumption))) (fun _ => ⟨rfl, trivial⟩) ?_)
  (refine r_mb2 _ rfl rfl (by (repeat (first | exact stripOK_nil | refine stripOK_mb id ?_ | refine stripOK_p ?_ | refine stripOK_ref ?_ | refine stripOK_row ?_ | refine stripOK_ptr ?_ | refine stripOK_agg ?_ | refine stripOK_mb (by simp_all) ?_ | refine StripOK.plain _ _ rfl ?_))) (fun hb => a_gtr) (fun _ => trivial) ?_)
  (refine r_pure (a_or (by first | exact id | (simp; done) | grind)) rfl rfl ?_)
  refine arun_nil ?_
  refine thn_n ?_
  refine awp_cond _ rfl (fun h => ?_) (fun h => ?_)
  · rw [if_pos (show sizB x m = true from h)]
    refine awp_seq ?_
    refine awp_text (by kernel_rfl) ?_
    (refine r_pure (a_assign (r := .p _)) rfl rfl ?_)
    refine arun_nil ?_
    refine awp_ret (thn_r ?_)
    refine ⟨(by first | exact .inl rfl | exact .inr rfl), _, (fun o => o), (.tmp _ _ _ _ rfl .nil), ?_, rfl, ?_, rfl⟩
    · exact rfl
    · exact trivial
  rw [if_neg (show ¬ sizB x m = true by have h' : sizB x m = false := h; simp [h'])]
  refine awp_skip (awp_seq ?_)
  refine awp_text (by kernel_rfl) ?_
  (refine r_pure (a_assign (r := .p _)) rfl rfl ?_)
  refine arun_nil ?_
  refine awp_ret ?_
  refine ⟨(by first | exact .inl rfl | exact .inr rfl), _, (fun o => o), (.tmp _ _ _ _ rfl .nil), ?_, rfl, ?_, rfl⟩
  · exact rfl
  · exact trivial

/-- a number as so many bytes, the lowest one first -/
def leN (m n : Nat) : List Int := (List.range m).map fun i => ((n / 256 ^ i % 256 : Nat) : Int)
theorem leN_len (m n : Nat) : (leN m n).length = m := by simp [leN]
theorem leN_B (m n : Nat) : isB (leN m n) := by
  intro x hx
  simp only [leN, List.mem_map] at hx
  obtain ⟨i, _, rfl⟩ := hx
  omega
theorem leN_succ (m n : Nat) : leN (m + 1) n = leN m n ++ [((n / 256 ^ m % 256 : Nat) : Int)] := by simp [leN, List.range_succ]

set_option maxHeartbeats 2000000 in
theorem put4_s (a : Nat) (ys : List Int) (n : Nat) (hy : ys.length = a) (ha : a ≤ 1000) (hn : n < 9223372036854775808) : FnO Try.prog 92 [.row 1, .p (.v (.int .i64 n)), .p (.v (.int .i64 4))] ((1, .live (.row 5 1 a (bs ys))) :: [(100, .un), (101, .un), (102, .un), (103, .un), (104, .un), (105, .un), (106, .un), (107, .un)]) ((107, .live (.row 5 1 (a + 4) (bs (ys ++ leN 4 n)))) :: (1, .dead) :: [(100, .dead), (101, .dead), (102, .dead), (103, .dead), (104, .dead), (105, .dead), (106, .dead)]) (.row 107) := by
  rw [show AV.p (.v (.int .i64 (n : Int))) = .p (.v (.int .i64 ((n / 256 ^ 0 : Nat) : Int))) by simp]
  rw [show bs ys = bs (ys ++ leN 0 n) by simp [leN]]
  refine fnO_intro Try.func92 rfl (Nat.le_of_ble_eq_true rfl) fun w0 A heap => ?_
  refine awp_seq ?_
  refine awp_text (by kernel_rfl) ?_
  (refine r_pure (a_assign (r := .p _)) rfl rfl ?_)
  refine arun_nil ?_
  refine awp_seq (awp_seq ?_)
  refine awp_text (by kernel_rfl) ?_
  (refine r_pure (a_move (r := .p _)) rfl rfl ?_)
  (refine r_pure (a_move (r := .p _)) rfl rfl ?_)
  refine arun_nil ?_
  refine awp_block ?_
  refine awp_loop_rounds 5 ?_
  refine arounds_succ ?_
  refine awp_seq ?_
  refine awp_text (by kernel_rfl) ?_
  (refine r_pure a_lss rfl rfl ?_)
  refine arun_nil ?_
  refine awp_seq ?_
  refine awp_cond _ rfl (fun h => ?_) (fun h => ?_)
  rotate_left
  · cases h
  clear h
  have g0 : IntKind.u8.wrap ((n / 256 ^ 0 : Nat) : Int) = ((n / 256 ^ 0 % 256 : Nat) : Int) := by rw [IntKind.wrap_u8]; omega
  have f0 : ((n / 256 ^ 0 : Nat) : Int).fdiv (2 ^ min (8 : Int).toNat IntKind.i64.bits) = ((n / 256 ^ 1 : Nat) : Int) := by
    rw [show (2 : Int) ^ min (8 : Int).toNat IntKind.i64.bits = 256 from rfl, Int.fdiv_eq_ediv_of_nonneg _ (by omega)]
    rw [Nat.pow_succ, ← Nat.div_div_eq_div_mul]; omega
  have L0 : leN 1 n = leN 0 n ++ [((n / 256 ^ 0 % 256 : Nat) : Int)] := leN_succ 0 n
  refine awp_skip (awp_seq (awp_block (awp_seq ?_)))
  refine awp_text (by kernel_rfl) ?_
  (refine r_pure (a_move (r := .row _)) rfl rfl ?_)
  (refine r_pure (a_move (r := .p _)) rfl rfl ?_)
  (refine r_pure (a_conv Try.underlying3 Try.underlying5 g0) rfl rfl ?_)
  (refine r_run (xs := [.p (.v (.int .u8 ((n / 256 ^ 0 % 256 : Nat) : Int)))]) (a_buildSlice (es := [.p (.v (.int .u8 ((n / 256 ^ 0 % 256 : Nat) : Int)))]) (cs := (bs [((n / 256 ^ 0 % 256 : Nat) : Int)])) 100 Try.underlying42 sz5 zc5 (Nat.le_of_ble_eq_true rfl) (Nat.le_of_ble_eq_true rfl) rfl (by kernel_rfl) (by kernel_rfl) (by kernel_rfl) (Nat.le_of_ble_eq_true rfl)) (by first | rfl | kernel_rfl) rfl ⟨rfl, trivial⟩ ?_)
  (refine r_run (a_append 101 Try.underlying42 eo5 (src_row) (by simp only [maxLen]; omega) (by omega) (show _ = a + 1 by omega) (show _ = bs (ys ++ leN 1 n) by rw [bs_appd, L0, ← List.append_assoc])) rfl rfl ⟨rfl, rfl, rfl, trivial⟩ ?_)
  (refine r_pure (a_assign (r := .row _)) rfl rfl ?_)
  refine arun_nil ?_
  refine thn_n (awp_reO (reo_drop 100) ?_)
  skip
  refine awp_text (by kernel_rfl) ?_
  (refine r_pure (a_move (r := .p _)) rfl rfl ?_)
  (refine r_pure (a_shr (by omega) f0) rfl rfl ?_)
  (refine r_pure (a_assign (r := .p _)) rfl rfl ?_)
  refine arun_nil ?_
  refine inb_n (thn_n ?_)
  refine awp_text (by kernel_rfl) ?_
  (refine r_pure (a_add (by first | exact IntWalk.i64_in _ (by omega) | rfl)) rfl rfl ?_)
  (refine r_pure (a_move (r := .p _)) rfl rfl ?_)
  refine arun_nil ?_
  refine awp_seq ?_
  refine awp_text (by kernel_rfl) ?_
  (refine r_pure a_lss rfl rfl ?_)
  refine arun_nil ?_
  refine awp_seq ?_
  refine awp_cond _ rfl (fun h => ?_) (fun h => ?_)
  rotate_left
  · cases h
  clear h
  have g1 : IntKind.u8.wrap ((n / 256 ^ 1 : Nat) : Int) = ((n / 256 ^ 1 % 256 : Nat) : Int) := by rw [IntKind.wrap_u8]; omega
  have f1 : ((n / 256 ^ 1 : Nat) : Int).fdiv (2 ^ min (8 : Int).toNat IntKind.i64.bits) = ((n / 256 ^ 2 : Nat) : Int) := by
    rw [show (2 : Int) ^ min (8 : Int).toNat IntKind.i64.bits = 256 from rfl, Int.fdiv_eq_ediv_of_nonneg _ (by omega)]
    rw [Nat.pow_succ, ← Nat.div_div_eq_div_mul]; omega
  have L1 : leN 2 n = leN 1 n ++ [((n / 256 ^ 1 % 256 : Nat) : Int)] := leN_succ 1 n
  refine awp_skip (awp_seq (awp_block (awp_seq ?_)))
  refine awp_text (by kernel_rfl) ?_
  (refine r_pure (a_move (r := .row _)) rfl rfl ?_)
  (refine r_pure (a_move (r := .p _)) rfl rfl ?_)
  (refine r_pure (a_conv Try.underlying3 Try.underlying5 g1) rfl rfl ?_)
  (refine r_run (xs := [.p (.v (.int .u8 ((n / 256 ^ 1 % 256 : Nat) : Int)))]) (a_buildSlice (es := [.p (.v (.int .u8 ((n / 256 ^ 1 % 256 : Nat) : Int)))]) (cs := (bs [((n / 256 ^ 1 % 256 : Nat) : Int)])) 102 Try.underlying42 sz5 zc5 (Nat.le_of_ble_eq_true rfl) (Nat.le_of_ble_eq_true rfl) rfl (by kernel_rfl) (by kernel_rfl) (by kernel_rfl) (Nat.le_of_ble_eq_true rfl)) (by first | rfl | kernel_rfl) rfl ⟨rfl, trivial⟩ ?_)
  (refine r_run (a_append 103 Try.underlying42 eo5 (src_row) (by simp only [maxLen]; omega) (by omega) (show _ = a + 2 by omega) (show _ = bs (ys ++ leN 2 n) by rw [bs_appd, L1, ← List.append_assoc])) rfl rfl ⟨rfl, rfl, rfl, trivial⟩ ?_)
  (refine r_pure (a_assign (r := .row _)) rfl rfl ?_)
  refine arun_nil ?_
  refine thn_n (awp_reO (reo_drop 102) ?_)
  skip
  refine awp_text (by kernel_rfl) ?_
  (refine r_pure (a_move (r := .p _)) rfl rfl ?_)
  (refine r_pure (a_shr (by omega) f1) rfl rfl ?_)
  (refine r_pure (a_assign (r := .p _)) rfl rfl ?_)
  refine arun_nil ?_
  refine inb_n (thn_n ?_)
  refine awp_text (by kernel_rfl) ?_
  (refine r_pure (a_add (by first | exact IntWalk.i64_in _ (by omega) | rfl)) rfl rfl ?_)
  (refine r_pure (a_move (r := .p _)) rfl rfl ?_)
  refine arun_nil ?_
  refine awp_seq ?_
  refine awp_text (by kernel_rfl) ?_
  (refine r_pure a_lss rfl rfl ?_)
  refine arun_nil ?_
  refine awp_seq ?_
  refine awp_cond _ rfl (fun h => ?_) (fun h => ?_)
  rotate_left
  · cases h
  clear h
  have g2 : IntKind.u8.wrap ((n / 256 ^ 2 : Nat) : Int) = ((n / 256 ^ 2 % 256 : Nat) : Int) := by rw [IntKind.wrap_u8]; omega
  have f2 : ((n / 256 ^ 2 : Nat) : Int).fdiv (2 ^ min (8 : Int).toNat IntKind.i64.bits) = ((n / 256 ^ 3 : Nat) : Int) := by
    rw [show (2 : Int) ^ min (8 : Int).toNat IntKind.i64.bits = 256 from rfl, Int.fdiv_eq_ediv_of_nonneg _ (by omega)]
    rw [Nat.pow_succ, ← Nat.div_div_eq_div_mul]; omega
  have L2 : leN 3 n = leN 2 n ++ [((n / 256 ^ 2 % 256 : Nat) : Int)] := leN_succ 2 n
  refine awp_skip (awp_seq (awp_block (awp_seq ?_)))
  refine awp_text (by kernel_rfl) ?_
  (refine r_pure (a_move (r := .row _)) rfl rfl ?_)
  (refine r_pure (a_move (r := .p _)) rfl rfl ?_)
  (refine r_pure (a_conv Try.underlying3 Try.underlying5 g2) rfl rfl ?_)
  (refine r_run (xs := [.p (.v (.int .u8 ((n / 256 ^ 2 % 256 : Nat) : Int)))]) (a_buildSlice (es := [.p (.v (.int .u8 ((n / 256 ^ 2 % 256 : Nat) : Int)))]) (cs := (bs [((n / 256 ^ 2 % 256 : Nat) : Int)])) 104 Try.underlying42 sz5 zc5 (Nat.le_of_ble_eq_true rfl) (Nat.le_of_ble_eq_true rfl) rfl (by kernel_rfl) (by kernel_rfl) (by kernel_rfl) (Nat.le_of_ble_eq_true rfl)) (by first | rfl | kernel_rfl) rfl ⟨rfl, trivial⟩ ?_)
  (refine r_run (a_append 105 Try.underlying42 eo5 (src_row) (by simp only [maxLen]; omega) (by omega) (show _ = a + 3 by omega) (show _ = bs (ys ++ leN 3 n) by rw [bs_appd, L2, ← List.append_assoc])) rfl rfl ⟨rfl, rfl, rfl, trivial⟩ ?_)
  (refine r_pure (a_assign (r := .row _)) rfl rfl ?_)
  refine arun_nil ?_
  refine thn_n (awp_reO (reo_drop 104) ?_)
  skip
  refine awp_text (by kernel_rfl) ?_
  (refine r_pure (a_move (r := .p _)) rfl rfl ?_)
  (refine r_pure (a_shr (by omega) f2) rfl rfl ?_)
  (refine r_pure (a_assign (r := .p _)) rfl rfl ?_)
  refine arun_nil ?_
  refine inb_n (thn_n ?_)
  refine awp_text (by kernel_rfl) ?_
  (refine r_pure (a_add (by first | exact IntWalk.i64_in _ (by omega) | rfl)) rfl rfl ?_)
  (refine r_pure (a_move (r := .p _)) rfl rfl ?_)
  refine arun_nil ?_
  refine awp_seq ?_
  refine awp_text (by kernel_rfl) ?_
  (refine r_pure a_lss rfl rfl ?_)
  refine arun_nil ?_
  refine awp_seq ?_
  refine awp_cond _ rfl (fun h => ?_) (fun h => ?_)
  rotate_left
  · cases h
  clear h
  have g3 : IntKind.u8.wrap ((n / 256 ^ 3 : Nat) : Int) = ((n / 256 ^ 3 % 256 : Nat) : Int) := by rw [IntKind.wrap_u8]; omega
  have f3 : ((n / 256 ^ 3 : Nat) : Int).fdiv (2 ^ min (8 : Int).toNat IntKind.i64.bits) = ((n / 256 ^ 4 : Nat) : Int) := by
    rw [show (2 : Int) ^ min (8 : Int).toNat IntKind.i64.bits = 256 from rfl, Int.fdiv_eq_ediv_of_nonneg _ (by omega)]
    rw [Nat.pow_succ, ← Nat.div_div_eq_div_mul]; omega
  have L3 : leN 4 n = leN 3 n ++ [((n / 256 ^ 3 % 256 : Nat) : Int)] := leN_succ 3 n
  refine awp_skip (awp_seq (awp_block (awp_seq ?_)))
  refine awp_text (by kernel_rfl) ?_
  (refine r_pure (a_move (r := .row _)) rfl rfl ?_)
  (refine r_pure (a_move (r := .p _)) rfl rfl ?_)
  (refine r_pure (a_conv Try.underlying3 Try.underlying5 g3) rfl rfl ?_)
  (refine r_run (xs := [.p (.v (.int .u8 ((n / 256 ^ 3 % 256 : Nat) : Int)))]) (a_buildSlice (es := [.p (.v (.int .u8 ((n / 256 ^ 3 % 256 : Nat) : Int)))]) (cs := (bs [((n / 256 ^ 3 % 256 : Nat) : Int)])) 106 Try.underlying42 sz5 zc5 (Nat.le_of_ble_eq_true rfl) (Nat.le_of_ble_eq_true rfl) rfl (by kernel_rfl) (by kernel_rfl) (by kernel_rfl) (Nat.le_of_ble_eq_true rfl)) (by first | rfl | kernel_rfl) rfl ⟨rfl, trivial⟩ ?_)
  (refine r_run (a_append 107 Try.underlying42 eo5 (src_row) (by simp only [maxLen]; omega) (by omega) (show _ = a + 4 by omega) (show _ = bs (ys ++ leN 4 n) by rw [bs_appd, L3, ← List.append_assoc])) rfl rfl ⟨rfl, rfl, rfl, trivial⟩ ?_)
  (refine r_pure (a_assign (r := .row _)) rfl rfl ?_)
  refine arun_nil ?_
  refine thn_n (awp_reO (reo_drop 106) ?_)
  skip
  refine awp_text (by kernel_rfl) ?_
  (refine r_pure (a_move (r := .p _)) rfl rfl ?_)
  (refine r_pure (a_shr (by omega) f3) rfl rfl ?_)
  (refine r_pure (a_assign (r := .p _)) rfl rfl ?_)
  refine arun_nil ?_
  refine inb_n (thn_n ?_)
  refine awp_text (by kernel_rfl) ?_
  (refine r_pure (a_add (by first | exact IntWalk.i64_in _ (by omega) | rfl)) rfl rfl ?_)
  (refine r_pure (a_move (r := .p _)) rfl rfl ?_)
  refine arun_nil ?_
  refine awp_seq ?_
  refine awp_text (by kernel_rfl) ?_
  (refine r_pure a_lss rfl rfl ?_)
  refine arun_nil ?_
  refine awp_seq ?_
  refine awp_cond _ rfl (fun h => ?_) (fun h => ?_)
  · cases h
  clear h
  refine awp_exit (awp_seq ?_)
  refine awp_text (by kernel_rfl) ?_
  (refine r_pure (a_move (r := .row _)) rfl rfl ?_)
  (refine r_pure (a_assign (r := .row _)) rfl rfl ?_)
  refine arun_nil ?_
  refine awp_ret ?_
  refine ⟨(by first | exact .inl rfl | exact .inr rfl), ⟨_, (.tmp _ _ _ _ rfl .nil), ?_⟩, ?_, ?_⟩
  · exact rfl
  · (repeat (first | exact trivial | refine ⟨rfl, ?_⟩))
  · (intro o ho; simp only [List.any_cons, List.any_nil, Bool.or_false, Bool.or_eq_false_iff] at ho; simp [St.put, St.upd, updL, ho])
set_option maxHeartbeats 4000000 in
theorem put8_s (a : Nat) (ys : List Int) (n : Nat) (hy : ys.length = a) (ha : a ≤ 1000) (hn : n < 9223372036854775808) : FnO Try.prog 92 [.row 1, .p (.v (.int .i64 n)), .p (.v (.int .i64 8))] ((1, .live (.row 5 1 a (bs ys))) :: [(100, .un), (101, .un), (102, .un), (103, .un), (104, .un), (105, .un), (106, .un), (107, .un), (108, .un), (109, .un), (110, .un), (111, .un), (112, .un), (113, .un), (114, .un), (115, .un)]) ((115, .live (.row 5 1 (a + 8) (bs (ys ++ leN 8 n)))) :: (1, .dead) :: [(100, .dead), (101, .dead), (102, .dead), (103, .dead), (104, .dead), (105, .dead), (106, .dead), (107, .dead), (108, .dead), (109, .dead), (110, .dead), (111, .dead), (112, .dead), (113, .dead), (114, .dead)]) (.row 115) := by
  rw [show AV.p (.v (.int .i64 (n : Int))) = .p (.v (.int .i64 ((n / 256 ^ 0 : Nat) : Int))) by simp]
  rw [show bs ys = bs (ys ++ leN 0 n) by simp [leN]]
  refine fnO_intro Try.func92 rfl (Nat.le_of_ble_eq_true rfl) fun w0 A heap => ?_
  refine awp_seq ?_
  refine awp_text (by kernel_rfl) ?_
  (refine r_pure (a_assign (r := .p _)) rfl rfl ?_)
  refine arun_nil ?_
  refine awp_seq (awp_seq ?_)
  refine awp_text (by kernel_rfl) ?_
  (refine r_pure (a_move (r := .p _)) rfl rfl ?_)
  (refine r_pure (a_move (r := .p _)) rfl rfl ?_)
  refine arun_nil ?_
  refine awp_block ?_
  refine awp_loop_rounds 9 ?_
  refine arounds_succ ?_
  refine awp_seq ?_
  refine awp_text (by kernel_rfl) ?_
  (refine r_pure a_lss rfl rfl ?_)
  refine arun_nil ?_
  refine awp_seq ?_
  refine awp_cond _ rfl (fun h => ?_) (fun h => ?_)
  rotate_left
  · cases h
  clear h
  have g0 : IntKind.u8.wrap ((n / 256 ^ 0 : Nat) : Int) = ((n / 256 ^ 0 % 256 : Nat) : Int) := by rw [IntKind.wrap_u8]; omega
  have f0 : ((n / 256 ^ 0 : Nat) : Int).fdiv (2 ^ min (8 : Int).toNat IntKind.i64.bits) = ((n / 256 ^ 1 : Nat) : Int) := by
    rw [show (2 : Int) ^ min (8 : Int).toNat IntKind.i64.bits = 256 from rfl, Int.fdiv_eq_ediv_of_nonneg _ (by omega)]
    rw [Nat.pow_succ, ← Nat.div_div_eq_div_mul]; omega
  have L0 : leN 1 n = leN 0 n ++ [((n / 256 ^ 0 % 256 : Nat) : Int)] := leN_succ 0 n
  refine awp_skip (awp_seq (awp_block (awp_seq ?_)))
  refine awp_text (by kernel_rfl) ?_
  (refine r_pure (a_move (r := .row _)) rfl rfl ?_)
  (refine r_pure (a_move (r := .p _)) rfl rfl ?_)
  (refine r_pure (a_conv Try.underlying3 Try.underlying5 g0) rfl rfl ?_)
  (refine r_run (xs := [.p (.v (.int .u8 ((n / 256 ^ 0 % 256 : Nat) : Int)))]) (a_buildSlice (es := [.p (.v (.int .u8 ((n / 256 ^ 0 % 256 : Nat) : Int)))]) (cs := (bs [((n / 256 ^ 0 % 256 : Nat) : Int)])) 100 Try.underlying42 sz5 zc5 (Nat.le_of_ble_eq_true rfl) (Nat.le_of_ble_eq_true rfl) rfl (by kernel_rfl) (by kernel_rfl) (by kernel_rfl) (Nat.le_of_ble_eq_true rfl)) (by first | rfl | kernel_rfl) rfl ⟨rfl, trivial⟩ ?_)
  (refine r_run (a_append 101 Try.underlying42 eo5 (src_row) (by simp only [maxLen]; omega) (by omega) (show _ = a + 1 by omega) (show _ = bs (ys ++ leN 1 n) by rw [bs_appd, L0, ← List.append_assoc])) rfl rfl ⟨rfl, rfl, rfl, trivial⟩ ?_)
  (refine r_pure (a_assign (r := .row _)) rfl rfl ?_)
  refine arun_nil ?_
  refine thn_n (awp_reO (reo_drop 100) ?_)
  skip
  refine awp_text (by kernel_rfl) ?_
  (refine r_pure (a_move (r := .p _)) rfl rfl ?_)
  (refine r_pure (a_shr (by omega) f0) rfl rfl ?_)
  (refine r_pure (a_assign (r := .p _)) rfl rfl ?_)
  refine arun_nil ?_
  refine inb_n (thn_n ?_)
  refine awp_text (by kernel_rfl) ?_
  (refine r_pure (a_add (by first | exact IntWalk.i64_in _ (by omega) | rfl)) rfl rfl ?_)
  (refine r_pure (a_move (r := .p _)) rfl rfl ?_)
  refine arun_nil ?_
  refine awp_seq ?_
  refine awp_text (by kernel_rfl) ?_
  (refine r_pure a_lss rfl rfl ?_)
  refine arun_nil ?_
  refine awp_seq ?_
  refine awp_cond _ rfl (fun h => ?_) (fun h => ?_)
  rotate_left
  · cases h
  clear h
  have g1 : IntKind.u8.wrap ((n / 256 ^ 1 : Nat) : Int) = ((n / 256 ^ 1 % 256 : Nat) : Int) := by rw [IntKind.wrap_u8]; omega
  have f1 : ((n / 256 ^ 1 : Nat) : Int).fdiv (2 ^ min (8 : Int).toNat IntKind.i64.bits) = ((n / 256 ^ 2 : Nat) : Int) := by
    rw [show (2 : Int) ^ min (8 : Int).toNat IntKind.i64.bits = 256 from rfl, Int.fdiv_eq_ediv_of_nonneg _ (by omega)]
    rw [Nat.pow_succ, ← Nat.div_div_eq_div_mul]; omega
  have L1 : leN 2 n = leN 1 n ++ [((n / 256 ^ 1 % 256 : Nat) : Int)] := leN_succ 1 n
  refine awp_skip (awp_seq (awp_block (awp_seq ?_)))
  refine awp_text (by kernel_rfl) ?_
  (refine r_pure (a_move (r := .row _)) rfl rfl ?_)
  (refine r_pure (a_move (r := .p _)) rfl rfl ?_)
  (refine r_pure (a_conv Try.underlying3 Try.underlying5 g1) rfl rfl ?_)
  (refine r_run (xs := [.p (.v (.int .u8 ((n / 256 ^ 1 % 256 : Nat) : Int)))]) (a_buildSlice (es := [.p (.v (.int .u8 ((n / 256 ^ 1 % 256 : Nat) : Int)))]) (cs := (bs [((n / 256 ^ 1 % 256 : Nat) : Int)])) 102 Try.underlying42 sz5 zc5 (Nat.le_of_ble_eq_true rfl) (Nat.le_of_ble_eq_true rfl) rfl (by kernel_rfl) (by kernel_rfl) (by kernel_rfl) (Nat.le_of_ble_eq_true rfl)) (by first | rfl | kernel_rfl) rfl ⟨rfl, trivial⟩ ?_)
  (refine r_run (a_append 103 Try.underlying42 eo5 (src_row) (by simp only [maxLen]; omega) (by omega) (show _ = a + 2 by omega) (show _ = bs (ys ++ leN 2 n) by rw [bs_appd, L1, ← List.append_assoc])) rfl rfl ⟨rfl, rfl, rfl, trivial⟩ ?_)
  (refine r_pure (a_assign (r := .row _)) rfl rfl ?_)
  refine arun_nil ?_
  refine thn_n (awp_reO (reo_drop 102) ?_)
  skip
  refine awp_text (by kernel_rfl) ?_
  (refine r_pure (a_move (r := .p _)) rfl rfl ?_)
  (refine r_pure (a_shr (by omega) f1) rfl rfl ?_)
  (refine r_pure (a_assign (r := .p _)) rfl rfl ?_)
  refine arun_nil ?_
  refine inb_n (thn_n ?_)
  refine awp_text (by kernel_rfl) ?_
  (refine r_pure (a_add (by first | exact IntWalk.i64_in _ (by omega) | rfl)) rfl rfl ?_)
  (refine r_pure (a_move (r := .p _)) rfl rfl ?_)
  refine arun_nil ?_
  refine awp_seq ?_
  refine awp_text (by kernel_rfl) ?_
  (refine r_pure a_lss rfl rfl ?_)
  refine arun_nil ?_
  refine awp_seq ?_
  refine awp_cond _ rfl (fun h => ?_) (fun h => ?_)
  rotate_left
  · cases h
  clear h
  have g2 : IntKind.u8.wrap ((n / 256 ^ 2 : Nat) : Int) = ((n / 256 ^ 2 % 256 : Nat) : Int) := by rw [IntKind.wrap_u8]; omega
  have f2 : ((n / 256 ^ 2 : Nat) : Int).fdiv (2 ^ min (8 : Int).toNat IntKind.i64.bits) = ((n / 256 ^ 3 : Nat) : Int) := by
    rw [show (2 : Int) ^ min (8 : Int).toNat IntKind.i64.bits = 256 from rfl, Int.fdiv_eq_ediv_of_nonneg _ (by omega)]
    rw [Nat.pow_succ, ← Nat.div_div_eq_div_mul]; omega
  have L2 : leN 3 n = leN 2 n ++ [((n / 256 ^ 2 % 256 : Nat) : Int)] := leN_succ 2 n
  refine awp_skip (awp_seq (awp_block (awp_seq ?_)))
  refine awp_text (by kernel_rfl) ?_
  (refine r_pure (a_move (r := .row _)) rfl rfl ?_)
  (refine r_pure (a_move (r := .p _)) rfl rfl ?_)
  (refine r_pure (a_conv Try.underlying3 Try.underlying5 g2) rfl rfl ?_)
  (refine r_run (xs := [.p (.v (.int .u8 ((n / 256 ^ 2 % 256 : Nat) : Int)))]) (a_buildSlice (es := [.p (.v (.int .u8 ((n / 256 ^ 2 % 256 : Nat) : Int)))]) (cs := (bs [((n / 256 ^ 2 % 256 : Nat) : Int)])) 104 Try.underlying42 sz5 zc5 (Nat.le_of_ble_eq_true rfl) (Nat.le_of_ble_eq_true rfl) rfl (by kernel_rfl) (by kernel_rfl) (by kernel_rfl) (Nat.le_of_ble_eq_true rfl)) (by first | rfl | kernel_rfl) rfl ⟨rfl, trivial⟩ ?_)
  (refine r_run (a_append 105 Try.underlying42 eo5 (src_row) (by simp only [maxLen]; omega) (by omega) (show _ = a + 3 by omega) (show _ = bs (ys ++ leN 3 n) by rw [bs_appd, L2, ← List.append_assoc])) rfl rfl ⟨rfl, rfl, rfl, trivial⟩ ?_)
  (refine r_pure (a_assign (r := .row _)) rfl rfl ?_)
  refine arun_nil ?_
  refine thn_n (awp_reO (reo_drop 104) ?_)
  skip
  refine awp_text (by kernel_rfl) ?_
  (refine r_pure (a_move (r := .p _)) rfl rfl ?_)
  (refine r_pure (a_shr (by omega) f2) rfl rfl ?_)
  (refine r_pure (a_assign (r := .p _)) rfl rfl ?_)
  refine arun_nil ?_
  refine inb_n (thn_n ?_)
  refine awp_text (by kernel_rfl) ?_
  (refine r_pure (a_add (by first | exact IntWalk.i64_in _ (by omega) | rfl)) rfl rfl ?_)
  (refine r_pure (a_move (r := .p _)) rfl rfl ?_)
  refine arun_nil ?_
  refine awp_seq ?_
  refine awp_text (by kernel_rfl) ?_
  (refine r_pure a_lss rfl rfl ?_)
  refine arun_nil ?_
  refine awp_seq ?_
  refine awp_cond _ rfl (fun h => ?_) (fun h => ?_)
  rotate_left
  · cases h
  clear h
  have g3 : IntKind.u8.wrap ((n / 256 ^ 3 : Nat) : Int) = ((n / 256 ^ 3 % 256 : Nat) : Int) := by rw [IntKind.wrap_u8]; omega
  have f3 : ((n / 256 ^ 3 : Nat) : Int).fdiv (2 ^ min (8 : Int).toNat IntKind.i64.bits) = ((n / 256 ^ 4 : Nat) : Int) := by
    rw [show (2 : Int) ^ min (8 : Int).toNat IntKind.i64.bits = 256 from rfl, Int.fdiv_eq_ediv_of_nonneg _ (by omega)]
    rw [Nat.pow_succ, ← Nat.div_div_eq_div_mul]; omega
  have L3 : leN 4 n = leN 3 n ++ [((n / 256 ^ 3 % 256 : Nat) : Int)] := leN_succ 3 n
  refine awp_skip (awp_seq (awp_block (awp_seq ?_)))
  refine awp_text (by kernel_rfl) ?_
  (refine r_pure (a_move (r := .row _)) rfl rfl ?_)
  (refine r_pure (a_move (r := .p _)) rfl rfl ?_)
  (refine r_pure (a_conv Try.underlying3 Try.underlying5 g3) rfl rfl ?_)
  (refine r_run (xs := [.p (.v (.int .u8 ((n / 256 ^ 3 % 256 : Nat) : Int)))]) (a_buildSlice (es := [.p (.v (.int .u8 ((n / 256 ^ 3 % 256 : Nat) : Int)))]) (cs := (bs [((n / 256 ^ 3 % 256 : Nat) : Int)])) 106 Try.underlying42 sz5 zc5 (Nat.le_of_ble_eq_true rfl) (Nat.le_of_ble_eq_true rfl) rfl (by kernel_rfl) (by kernel_rfl) (by kernel_rfl) (Nat.le_of_ble_eq_true rfl)) (by first | rfl | kernel_rfl) rfl ⟨rfl, trivial⟩ ?_)
  (refine r_run (a_append 107 Try.underlying42 eo5 (src_row) (by simp only [maxLen]; omega) (by omega) (show _ = a + 4 by omega) (show _ = bs (ys ++ leN 4 n) by rw [bs_appd, L3, ← List.append_assoc])) rfl rfl ⟨rfl, rfl, rfl, trivial⟩ ?_)
  (refine r_pure (a_assign (r := .row _)) rfl rfl ?_)
  refine arun_nil ?_
  refine thn_n (awp_reO (reo_drop 106) ?_)
  skip
  refine awp_text (by kernel_rfl) ?_
  (refine r_pure (a_move (r := .p _)) rfl rfl ?_)
  (refine r_pure (a_shr (by omega) f3) rfl rfl ?_)
  (refine r_pure (a_assign (r := .p _)) rfl rfl ?_)
  refine arun_nil ?_
  refine inb_n (thn_n ?_)
  refine awp_text (by kernel_rfl) ?_
  (refine r_pure (a_add (by first | exact IntWalk.i64_in _ (by omega) | rfl)) rfl rfl ?_)
  (refine r_pure (a_move (r := .p _)) rfl rfl ?_)
  refine arun_nil ?_
  refine awp_seq ?_
  refine awp_text (by kernel_rfl) ?_
  (refine r_pure a_lss rfl rfl ?_)
  refine arun_nil ?_
  refine awp_seq ?_
  refine awp_cond _ rfl (fun h => ?_) (fun h => ?_)
  rotate_left
  · cases h
  clear h
  have g4 : IntKind.u8.wrap ((n / 256 ^ 4 : Nat) : Int) = ((n / 256 ^ 4 % 256 : Nat) : Int) := by rw [IntKind.wrap_u8]; omega
  have f4 : ((n / 256 ^ 4 : Nat) : Int).fdiv (2 ^ min (8 : Int).toNat IntKind.i64.bits) = ((n / 256 ^ 5 : Nat) : Int) := by
    rw [show (2 : Int) ^ min (8 : Int).toNat IntKind.i64.bits = 256 from rfl, Int.fdiv_eq_ediv_of_nonneg _ (by omega)]
    rw [Nat.pow_succ, ← Nat.div_div_eq_div_mul]; omega
  have L4 : leN 5 n = leN 4 n ++ [((n / 256 ^ 4 % 256 : Nat) : Int)] := leN_succ 4 n
  refine awp_skip (awp_seq (awp_block (awp_seq ?_)))
  refine awp_text (by kernel_rfl) ?_
  (refine r_pure (a_move (r := .row _)) rfl rfl ?_)
  (refine r_pure (a_move (r := .p _)) rfl rfl ?_)
  (refine r_pure (a_conv Try.underlying3 Try.underlying5 g4) rfl rfl ?_)
  (refine r_run (xs := [.p (.v (.int .u8 ((n / 256 ^ 4 % 256 : Nat) : Int)))]) (a_buildSlice (es := [.p (.v (.int .u8 ((n / 256 ^ 4 % 256 : Nat) : Int)))]) (cs := (bs [((n / 256 ^ 4 % 256 : Nat) : Int)])) 108 Try.underlying42 sz5 zc5 (Nat.le_of_ble_eq_true rfl) (Nat.le_of_ble_eq_true rfl) rfl (by kernel_rfl) (by kernel_rfl) (by kernel_rfl) (Nat.le_of_ble_eq_true rfl)) (by first | rfl | kernel_rfl) rfl ⟨rfl, trivial⟩ ?_)
  (refine r_run (a_append 109 Try.underlying42 eo5 (src_row) (by simp only [maxLen]; omega) (by omega) (show _ = a + 5 by omega) (show _ = bs (ys ++ leN 5 n) by rw [bs_appd, L4, ← List.append_assoc])) rfl rfl ⟨rfl, rfl, rfl, trivial⟩ ?_)
  (refine r_pure (a_assign (r := .row _)) rfl rfl ?_)
  refine arun_nil ?_
  refine thn_n (awp_reO (reo_drop 108) ?_)
  skip
  refine awp_text (by kernel_rfl) ?_
  (refine r_pure (a_move (r := .p _)) rfl rfl ?_)
  (refine r_pure (a_shr (by omega) f4) rfl rfl ?_)
  (refine r_pure (a_assign (r := .p _)) rfl rfl ?_)
  refine arun_nil ?_
  refine inb_n (thn_n ?_)
  refine awp_text (by kernel_rfl) ?_
  (refine r_pure (a_add (by first | exact IntWalk.i64_in _ (by omega) | rfl)) rfl rfl ?_)
  (refine r_pure (a_move (r := .p _)) rfl rfl ?_)
  refine arun_nil ?_
  refine awp_seq ?_
  refine awp_text (by kernel_rfl) ?_
  (refine r_pure a_lss rfl rfl ?_)
  refine arun_nil ?_
  refine awp_seq ?_
  refine awp_cond _ rfl (fun h => ?_) (fun h => ?_)
  rotate_left
  · cases h
  clear h
  have g5 : IntKind.u8.wrap ((n / 256 ^ 5 : Nat) : Int) = ((n / 256 ^ 5 % 256 : Nat) : Int) := by rw [IntKind.wrap_u8]; omega
  have f5 : ((n / 256 ^ 5 : Nat) : Int).fdiv (2 ^ min (8 : Int).toNat IntKind.i64.bits) = ((n / 256 ^ 6 : Nat) : Int) := by
    rw [show (2 : Int) ^ min (8 : Int).toNat IntKind.i64.bits = 256 from rfl, Int.fdiv_eq_ediv_of_nonneg _ (by omega)]
    rw [Nat.pow_succ, ← Nat.div_div_eq_div_mul]; omega
  have L5 : leN 6 n = leN 5 n ++ [((n / 256 ^ 5 % 256 : Nat) : Int)] := leN_succ 5 n
  refine awp_skip (awp_seq (awp_block (awp_seq ?_)))
  refine awp_text (by kernel_rfl) ?_
  (refine r_pure (a_move (r := .row _)) rfl rfl ?_)
  (refine r_pure (a_move (r := .p _)) rfl rfl ?_)
  (refine r_pure (a_conv Try.underlying3 Try.underlying5 g5) rfl rfl ?_)
  (refine r_run (xs := [.p (.v (.int .u8 ((n / 256 ^ 5 % 256 : Nat) : Int)))]) (a_buildSlice (es := [.p (.v (.int .u8 ((n / 256 ^ 5 % 256 : Nat) : Int)))]) (cs := (bs [((n / 256 ^ 5 % 256 : Nat) : Int)])) 110 Try.underlying42 sz5 zc5 (Nat.le_of_ble_eq_true rfl) (Nat.le_of_ble_eq_true rfl) rfl (by kernel_rfl) (by kernel_rfl) (by kernel_rfl) (Nat.le_of_ble_eq_true rfl)) (by first | rfl | kernel_rfl) rfl ⟨rfl, trivial⟩ ?_)
  (refine r_run (a_append 111 Try.underlying42 eo5 (src_row) (by simp only [maxLen]; omega) (by omega) (show _ = a + 6 by omega) (show _ = bs (ys ++ leN 6 n) by rw [bs_appd, L5, ← List.append_assoc])) rfl rfl ⟨rfl, rfl, rfl, trivial⟩ ?_)
  (refine r_pure (a_assign (r := .row _)) rfl rfl ?_)
  refine arun_nil ?_
  refine thn_n (awp_reO (reo_drop 110) ?_)
  skip
  refine awp_text (by kernel_rfl) ?_
  (refine r_pure (a_move (r := .p _)) rfl rfl ?_)
  (refine r_pure (a_shr (by omega) f5) rfl rfl ?_)
  (refine r_pure (a_assign (r := .p _)) rfl rfl ?_)
  refine arun_nil ?_
  refine inb_n (thn_n ?_)
  refine awp_text (by kernel_rfl) ?_
  (refine r_pure (a_add (by first | exact IntWalk.i64_in _ (by omega) | rfl)) rfl rfl ?_)
  (refine r_pure (a_move (r := .p _)) rfl rfl ?_)
  refine arun_nil ?_
  refine awp_seq ?_
  refine awp_text (by kernel_rfl) ?_
  (refine r_pure a_lss rfl rfl ?_)
  refine arun_nil ?_
  refine awp_seq ?_
  refine awp_cond _ rfl (fun h => ?_) (fun h => ?_)
  rotate_left
  · cases h
  clear h
  have g6 : IntKind.u8.wrap ((n / 256 ^ 6 : Nat) : Int) = ((n / 256 ^ 6 % 256 : Nat) : Int) := by rw [IntKind.wrap_u8]; omega
  have f6 : ((n / 256 ^ 6 : Nat) : Int).fdiv (2 ^ min (8 : Int).toNat IntKind.i64.bits) = ((n / 256 ^ 7 : Nat) : Int) := by
    rw [show (2 : Int) ^ min (8 : Int).toNat IntKind.i64.bits = 256 from rfl, Int.fdiv_eq_ediv_of_nonneg _ (by omega)]
    rw [Nat.pow_succ, ← Nat.div_div_eq_div_mul]; omega
  have L6 : leN 7 n = leN 6 n ++ [((n / 256 ^ 6 % 256 : Nat) : Int)] := leN_succ 6 n
  refine awp_skip (awp_seq (awp_block (awp_seq ?_)))
  refine awp_text (by kernel_rfl) ?_
  (refine r_pure (a_move (r := .row _)) rfl rfl ?_)
  (refine r_pure (a_move (r := .p _)) rfl rfl ?_)
  (refine r_pure (a_conv Try.underlying3 Try.underlying5 g6) rfl rfl ?_)
  (refine r_run (xs := [.p (.v (.int .u8 ((n / 256 ^ 6 % 256 : Nat) : Int)))]) (a_buildSlice (es := [.p (.v (.int .u8 ((n / 256 ^ 6 % 256 : Nat) : Int)))]) (cs := (bs [((n / 256 ^ 6 % 256 : Nat) : Int)])) 112 Try.underlying42 sz5 zc5 (Nat.le_of_ble_eq_true rfl) (Nat.le_of_ble_eq_true rfl) rfl (by kernel_rfl) (by kernel_rfl) (by kernel_rfl) (Nat.le_of_ble_eq_true rfl)) (by first | rfl | kernel_rfl) rfl ⟨rfl, trivial⟩ ?_)
  (refine r_run (a_append 113 Try.underlying42 eo5 (src_row) (by simp only [maxLen]; omega) (by omega) (show _ = a + 7 by omega) (show _ = bs (ys ++ leN 7 n) by rw [bs_appd, L6, ← List.append_assoc])) rfl rfl ⟨rfl, rfl, rfl, trivial⟩ ?_)
  (refine r_pure (a_assign (r := .row _)) rfl rfl ?_)
  refine arun_nil ?_
  refine thn_n (awp_reO (reo_drop 112) ?_)
  skip
  refine awp_text (by kernel_rfl) ?_
  (refine r_pure (a_move (r := .p _)) rfl rfl ?_)
  (refine r_pure (a_shr (by omega) f6) rfl rfl ?_)
  (refine r_pure (a_assign (r := .p _)) rfl rfl ?_)
  refine arun_nil ?_
  refine inb_n (thn_n ?_)
  refine awp_text (by kernel_rfl) ?_
  (refine r_pure (a_add (by first | exact IntWalk.i64_in _ (by omega) | rfl)) rfl rfl ?_)
  (refine r_pure (a_move (r := .p _)) rfl rfl ?_)
  refine arun_nil ?_
  refine awp_seq ?_
  refine awp_text (by kernel_rfl) ?_
  (refine r_pure a_lss rfl rfl ?_)
  refine arun_nil ?_
  refine awp_seq ?_
  refine awp_cond _ rfl (fun h => ?_) (fun h => ?_)
  rotate_left
  · cases h
  clear h
  have g7 : IntKind.u8.wrap ((n / 256 ^ 7 : Nat) : Int) = ((n / 256 ^ 7 % 256 : Nat) : Int) := by rw [IntKind.wrap_u8]; omega
  have f7 : ((n / 256 ^ 7 : Nat) : Int).fdiv (2 ^ min (8 : Int).toNat IntKind.i64.bits) = ((n / 256 ^ 8 : Nat) : Int) := by
    rw [show (2 : Int) ^ min (8 : Int).toNat IntKind.i64.bits = 256 from rfl, Int.fdiv_eq_ediv_of_nonneg _ (by omega)]
    rw [Nat.pow_succ, ← Nat.div_div_eq_div_mul]; omega
  have L7 : leN 8 n = leN 7 n ++ [((n / 256 ^ 7 % 256 : Nat) : Int)] := leN_succ 7 n
  refine awp_skip (awp_seq (awp_block (awp_seq ?_)))
  refine awp_text (by kernel_rfl) ?_
  (refine r_pure (a_move (r := .row _)) rfl rfl ?_)
  (refine r_pure (a_move (r := .p _)) rfl rfl ?_)
  (refine r_pure (a_conv Try.underlying3 Try.underlying5 g7) rfl rfl ?_)
  (refine r_run (xs := [.p (.v (.int .u8 ((n / 256 ^ 7 % 256 : Nat) : Int)))]) (a_buildSlice (es := [.p (.v (.int .u8 ((n / 256 ^ 7 % 256 : Nat) : Int)))]) (cs := (bs [((n / 256 ^ 7 % 256 : Nat) : Int)])) 114 Try.underlying42 sz5 zc5 (Nat.le_of_ble_eq_true rfl) (Nat.le_of_ble_eq_true rfl) rfl (by kernel_rfl) (by kernel_rfl) (by kernel_rfl) (Nat.le_of_ble_eq_true rfl)) (by first | rfl | kernel_rfl) rfl ⟨rfl, trivial⟩ ?_)
  (refine r_run (a_append 115 Try.underlying42 eo5 (src_row) (by simp only [maxLen]; omega) (by omega) (show _ = a + 8 by omega) (show _ = bs (ys ++ leN 8 n) by rw [bs_appd, L7, ← List.append_assoc])) rfl rfl ⟨rfl, rfl, rfl, trivial⟩ ?_)
  (refine r_pure (a_assign (r := .row _)) rfl rfl ?_)
  refine arun_nil ?_
  refine thn_n (awp_reO (reo_drop 114) ?_)
  skip
  refine awp_text (by kernel_rfl) ?_
  (refine r_pure (a_move (r := .p _)) rfl rfl ?_)
  (refine r_pure (a_shr (by omega) f7) rfl rfl ?_)
  (refine r_pure (a_assign (r := .p _)) rfl rfl ?_)
  refine arun_nil ?_
  refine inb_n (thn_n ?_)
  refine awp_text (by kernel_rfl) ?_
  (refine r_pure (a_add (by first | exact IntWalk.i64_in _ (by omega) | rfl)) rfl rfl ?_)
  (refine r_pure (a_move (r := .p _)) rfl rfl ?_)
  refine arun_nil ?_
  refine awp_seq ?_
  refine awp_text (by kernel_rfl) ?_
  (refine r_pure a_lss rfl rfl ?_)
  refine arun_nil ?_
  refine awp_seq ?_
  refine awp_cond _ rfl (fun h => ?_) (fun h => ?_)
  · cases h
  clear h
  refine awp_exit (awp_seq ?_)
  refine awp_text (by kernel_rfl) ?_
  (refine r_pure (a_move (r := .row _)) rfl rfl ?_)
  (refine r_pure (a_assign (r := .row _)) rfl rfl ?_)
  refine arun_nil ?_
  refine awp_ret ?_
  refine ⟨(by first | exact .inl rfl | exact .inr rfl), ⟨_, (.tmp _ _ _ _ rfl .nil), ?_⟩, ?_, ?_⟩
  · exact rfl
  · (repeat (first | exact trivial | refine ⟨rfl, ?_⟩))
  · (intro o ho; simp only [List.any_cons, List.any_nil, Bool.or_false, Bool.or_eq_false_iff] at ho; simp [St.put, St.upd, updL, ho])
end Go.Proofs.Ytfnipohlkifkhaa
