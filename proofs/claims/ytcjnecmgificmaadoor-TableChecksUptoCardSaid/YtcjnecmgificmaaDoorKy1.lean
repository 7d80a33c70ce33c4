/- package keys: Check, Fresh, Old, and their references, over data. -/
import Derived.Test.YtcjnecmgificmaaDoorMa4
import Derived.Test.YtcjnecmgificmaaDoorHx
import Derived.Test.YtcjnecmgificmaaDoorWinA
namespace Go.Proofs.YtcjnecmgificmaaDoor
open Go.RowKit Go.Sort
set_option linter.unusedVariables false
set_option linter.unusedSimpArgs false
set_option maxRecDepth 100000

theorem winCheck_s (s : Bool) (l b : Int) (hb0 : 0 ≤ b) (hb1 : b < 18446744073709551616) (hl0 : -9223372036854775808 ≤ l) (hl1 : l < 9223372036854775808) : Fn Tryd.prog 84 [.agg [.p (.v (.bool s)), .p (.v (.int .i64 l)), .p (.v (.int .u64 b))]] (.p (.v (.int .i64 (winFault s l b)))) [] :=
  fn_gives rfl (fun _ _ _ => rep_mk rfl) (winCheck_g s l b hb0 hb1 hl0 hl1)
theorem refWinFault_s (s : Bool) (l b : Int) (hb0 : 0 ≤ b) (hb1 : b < 18446744073709551616) (hl0 : -9223372036854775808 ≤ l) (hl1 : l < 9223372036854775808) : Fn Tryd.prog 88 [.agg [.p (.v (.bool s)), .p (.v (.int .i64 l)), .p (.v (.int .u64 b))]] (.p (.v (.int .i64 (winFault s l b)))) [] :=
  fn_gives rfl (fun _ _ _ => rep_mk rfl) (refWinFault_g s l b hb0 hb1 hl0 hl1)

/-- keys -/
structure KY where
  live : Bool
  send : ByteArray
  take : ByteArray
  mine : Int
  theirs : Int
  born : Int
  counter : Int
  ss : Bool
  sl : Int
  sb : Int
  first : Bool
def KY.vals (k : KY) : List Value := [.bool k.live, .string k.send, .string k.take, .int .i64 k.mine, .int .i64 k.theirs, .int .i64 k.born, .int .i64 k.counter, .bool k.ss, .int .i64 k.sl, .int .u64 k.sb, .bool k.first]
def KY.pv (k : KY) : List PV := [.v (.bool k.live), .v (.string k.send), .v (.string k.take), .v (.int .i64 k.mine), .v (.int .i64 k.theirs), .v (.int .i64 k.born), .v (.int .i64 k.counter), .v (.bool k.ss), .v (.int .i64 k.sl), .v (.int .u64 k.sb), .v (.bool k.first)]
def KY.cells (k : KY) : List AV := [.p (.v (.bool k.live)), .p (.v (.string k.send)), .p (.v (.string k.take)), .p (.v (.int .i64 k.mine)), .p (.v (.int .i64 k.theirs)), .p (.v (.int .i64 k.born)), .p (.v (.int .i64 k.counter)), .p (.v (.bool k.ss)), .p (.v (.int .i64 k.sl)), .p (.v (.int .u64 k.sb)), .p (.v (.bool k.first))]
def KY0 : KY := ⟨false, ⟨#[]⟩, ⟨#[]⟩, 0, 0, 0, 0, false, 0, 0, false⟩
structure KY.OK (k : KY) : Prop where
  sb0 : 0 ≤ k.sb
  sb1 : k.sb < 18446744073709551616
  sl0 : -9223372036854775808 ≤ k.sl
  sl1 : k.sl < 9223372036854775808
  m0 : -9223372036854775808 ≤ k.mine
  m1 : k.mine ≤ 9223372036854775807
  t0 : -9223372036854775808 ≤ k.theirs
  t1 : k.theirs ≤ 9223372036854775807
  b0 : -9223372036854775808 ≤ k.born
  b1 : k.born ≤ 9223372036854775807
  c0 : -9223372036854775808 ≤ k.counter
  c1 : k.counter ≤ 9223372036854775807
  s0 : k.send.size ≤ 140737488351232
  s1 : k.take.size ≤ 140737488351232
theorem KY0.ok : KY0.OK := by constructor <;> decide

noncomputable def KY.zero (k : KY) : Bool := eqL k.vals KY0.vals
def KY.bad (k : KY) : Bool := (((((((decide (k.mine < 1) || decide (4294967295 < k.mine)) || decide (k.theirs < 1)) || decide (4294967295 < k.theirs)) || decide (k.born < 0)) || decide (1099511627776 < k.born)) || decide (k.counter < 0)) || decide (1099511627776 < k.counter))
noncomputable def kE (k : KY) : Int :=
  if k.live = false then (if k.zero = true then 0 else 14)
  else if keyE k.send ≠ 0 then keyE k.send else if keyE k.take ≠ 0 then keyE k.take else if k.bad = true then 4 else winFault k.ss k.sl k.sb
theorem kE_live {k : KY} (h : kE k = 0) (hl : k.live = true) : keyE k.send = 0 ∧ keyE k.take = 0 ∧ k.bad = false ∧ winFault k.ss k.sl k.sb = 0 := by
  unfold kE at h
  rw [if_neg (by simp [hl])] at h
  by_cases h1 : keyE k.send = 0
  · rw [if_neg (by simp [h1])] at h
    by_cases h2 : keyE k.take = 0
    · rw [if_neg (by simp [h2])] at h
      by_cases h3 : k.bad = true
      · rw [if_pos h3] at h; omega
      · rw [if_neg h3] at h
        exact ⟨h1, h2, by simpa using h3, h⟩
    · rw [if_pos h2] at h; exact absurd h h2
  · rw [if_pos h1] at h; exact absurd h h1
theorem kE_bounds {k : KY} (h : kE k = 0) (hl : k.live = true) : 1 ≤ k.mine ∧ k.mine ≤ 4294967295 ∧ 1 ≤ k.theirs ∧ k.theirs ≤ 4294967295 ∧ 0 ≤ k.counter ∧ k.counter ≤ 1099511627776 ∧ 0 ≤ k.born ∧ k.born ≤ 1099511627776 := by
  have h3 := (kE_live h hl).2.2.1
  unfold KY.bad at h3
  simp at h3
  omega
theorem KY.eqL_iff {a b : KY} : eqL a.vals b.vals = true ↔ a = b := by
  rw [eqL_true]
  constructor
  · intro h
    cases a; cases b
    simpa [KY.vals] using h
  · intro h; rw [h]
theorem KY.zero_iff {k : KY} : k.zero = true ↔ k = KY0 := KY.eqL_iff

set_option maxHeartbeats 2000000 in
theorem kcheck_s (k : KY) (ok : k.OK) : Fn Tryd.prog 49 [.agg k.cells] (.p (.v (.int .i64 (kE k)))) [] := by
  have hW := winCheck_s k.ss k.sl k.sb ok.sb0 ok.sb1 ok.sl0 ok.sl1
  refine fn_intro Tryd.func49 rfl (Nat.le_of_ble_eq_true rfl) fun w0 A => ?_
  refine awp_seq ?_
  refine tx ?_
  refine r_run (a_box (X := .agg _) 1 rfl) rfl rfl ⟨rfl, trivial⟩ ?_
  refine aP rfl rfl ?_
  refine arun_nil ?_
  refine awp_seq (awp_seq ?_)
  refine tx ?_
  refine fA fi44_0 rfl rfl ?_
  refine l1 Tryd.underlying4 rfl rfl rfl ⟨rfl, trivial⟩ ?_
  refine r_pure a_not rfl rfl ?_
  refine arun_nil ?_
  refine thn_n ?_
  refine awp_cond _ rfl (fun h => ?_) (fun h => ?_)
  · have hl : k.live = false := by simpa using h
    have hE : kE k = if k.zero = true then 0 else 14 := by unfold kE; rw [if_pos hl]
    rw [hE]
    refine awp_seq (awp_seq ?_)
    refine tx ?_
    refine lN Tryd.underlying44 rfl sz44 rfl rfl ⟨rfl, trivial⟩ ?_
    refine r_pure (b_build pl44 zr44 rfl rfl) rfl rfl ?_
    refine r_pure (a_stneq Tryd.underlying44 rfl rfl (by kernel_rfl) (by kernel_rfl) (by kernel_rfl)) rfl rfl ?_
    refine arun_nil ?_
    refine thn_n ?_
    refine awp_cond _ rfl (fun h => ?_) (fun h => ?_)
    · have hz : ¬ k.zero = true := by
        intro hz
        have hz' : eqL k.vals KY0.vals = true := hz
        have h' : (!eqL k.vals KY0.vals) = true := h
        rw [hz'] at h'; cases h'
      rw [if_neg hz]
      refine awp_seq ?_
      refine tx ?_
      refine aP rfl rfl ?_
      refine arun_nil ?_
      refine awp_ret (thn_r (thn_r ?_))
      refine fT (fun o => o) (.tmp _ _ _ _ rfl .nil) ?_ ?_
      · exact rfl
      · exact trivial
    · have hz : k.zero = true := by
        have h' : (!eqL k.vals KY0.vals) = false := h
        show eqL k.vals KY0.vals = true
        cases hq : eqL k.vals KY0.vals
        · rw [hq] at h'; cases h'
        · rfl
      rw [if_pos hz]
      refine awp_skip (awp_seq ?_)
      refine tx ?_
      refine aP rfl rfl ?_
      refine arun_nil ?_
      refine awp_ret (thn_r ?_)
      refine fT (fun o => o) (.tmp _ _ _ _ rfl .nil) ?_ ?_
      · exact rfl
      · exact trivial
  have hl : k.live = true := by simpa using h
  clear h
  have hE : kE k = if keyE k.send ≠ 0 then keyE k.send else if keyE k.take ≠ 0 then keyE k.take else if k.bad = true then 4 else winFault k.ss k.sl k.sb := by unfold kE; rw [if_neg (by simp [hl])]
  rw [hE]
  refine awp_skip (awp_seq (awp_seq ?_))
  refine tx ?_
  refine fA fi44_1 rfl rfl ?_
  refine l1 Tryd.underlying9 rfl rfl rfl ⟨rfl, trivial⟩ ?_
  refine fA fi44_2 rfl rfl ?_
  refine l1 Tryd.underlying9 rfl rfl rfl ⟨rfl, trivial⟩ ?_
  refine r_pure (xs := [.p (.v (.string k.send)), .p (.v (.string k.take))]) (a_buildA (es := [.p (.v (.string k.send)), .p (.v (.string k.take))]) Tryd.underlying131 zr131 rfl sz9 (by kernel_rfl)) (by first | rfl | kernel_rfl) rfl ?_
  refine mP rfl rfl ?_
  refine arun_nil ?_
  refine awp_block ?_
  refine awp_loopR (fun m st => ∃ i : Nat, m + i = 2 ∧ (1 ≤ i → keyE k.send = 0) ∧ (2 ≤ i → keyE k.take = 0) ∧ st = St.of [(1, .ref 1 0), (16, .agg [.p (.v (.string k.send)), .p (.v (.string k.take))]), (17, .p (.v (.int .i64 i)))] [(1, .box 44 k.cells)]) 2 ?_ ?_
  · refine ⟨_, re_of id _ _ ?_ ?_ rfl, 0, by omega, by omega, by omega, rfl⟩
    · (repeat (first | exact trivial | (refine ⟨⟨(by first | rfl | (simp; done) | (simp; omega)), rfl⟩, ?_⟩)))
    · exact ⟨⟨rfl, rfl⟩, trivial⟩
  rintro m st ⟨i, hi, hi1, hi2, rfl⟩
  refine awp_seq ?_
  refine tx ?_
  refine r_pure a_lss rfl rfl ?_
  refine arun_nil ?_
  refine awp_seq ?_
  refine awp_cond _ rfl (fun h => ?_) (fun h => ?_)
  · have hlt : i < 2 := by simp at h; omega
    clear h
    obtain ⟨x, hx, hxa, hxb⟩ : ∃ x : ByteArray, [AV.p (.v (.string k.send)), AV.p (.v (.string k.take))][i]? = some (.p (.v (.string x))) ∧ (i = 0 → x = k.send) ∧ (i = 1 → x = k.take) := by
      match i, hlt with
      | 0, _ => exact ⟨k.send, rfl, fun _ => rfl, by omega⟩
      | 1, _ => exact ⟨k.take, rfl, by omega, fun _ => rfl⟩
    refine awp_skip (awp_seq (awp_block (awp_seq ?_)))
    refine tx ?_
    refine r_pure (a_index1 Tryd.underlying131 sz9 Tryd.underlying9 rfl (by omega) (by omega) (by first | rfl | assumption | ((try simp only [Int.toNat_natCast, Nat.mul_one, Nat.add_zero, Nat.zero_add]); first | assumption | rfl))) rfl rfl ?_
    refine aP rfl rfl ?_
    refine arun_nil ?_
    refine awp_seq ?_
    refine tx ?_
    refine mP rfl rfl ?_
    refine r_callV (fun n => 21 + 1000 * n) (hexCheck_s x) rfl rfl Tryd.func48 rfl rfl (by first | rfl | simp [AV.noSl, AV.noSlL, AObj.noSl, PV.isV, bs_noSl]) (by first | rfl | simp [AV.noSl, AV.noSlL, AObj.noSl, PV.isV, bs_noSl]) rfl rfl rfl (by first | exact trivial | exact ⟨rfl, trivial⟩ | exact ⟨rfl, rfl, trivial⟩) rfl rfl rfl ?_
    refine aP rfl rfl ?_
    refine arun_nil ?_
    refine awp_seq ?_
    refine tx ?_
    refine mP rfl rfl ?_
    refine r_pure a_neq rfl rfl ?_
    refine arun_nil ?_
    refine thn_n ?_
    refine awp_cond _ rfl (fun h => ?_) (fun h => ?_)
    · have hne : keyE x ≠ 0 := by simpa using h
      have hE2 : (if keyE k.send ≠ 0 then keyE k.send else if keyE k.take ≠ 0 then keyE k.take else if k.bad = true then 4 else winFault k.ss k.sl k.sb) = keyE x := by
        match i, hlt with
        | 0, _ => rw [hxa rfl] at hne ⊢; rw [if_pos hne]
        | 1, _ => rw [hxb rfl] at hne ⊢; rw [if_neg (by simp [hi1 (by omega)]), if_pos hne]
      rw [hE2]
      refine awp_seq ?_
      refine tx ?_
      refine mP rfl rfl ?_
      refine aP rfl rfl ?_
      refine arun_nil ?_
      refine awp_ret (inb_r (thn_r (thn_r (inb_r (thn_r ?_)))))
      refine fT (fun o => o) (.tmp _ _ _ _ rfl .nil) ?_ ?_
      · exact rfl
      · exact trivial
    · have he : keyE x = 0 := by simpa using h
      refine awp_skip (inb_n (thn_n ?_))
      refine tx ?_
      refine r_pure (a_add (by first | exact IntWalk.i64_in _ (by omega) | rfl)) rfl rfl ?_
      refine mP rfl rfl ?_
      refine arun_nil ?_
      refine thn_n ?_
      refine ⟨m - 1, by omega, _, re_of id _ _ ?_ ?_ rfl, i + 1, by omega, ?_, ?_, rfl⟩
      · (repeat (first | exact trivial | (refine ⟨⟨(by first | rfl | (simp; done) | (simp; omega)), rfl⟩, ?_⟩)))
      · exact ⟨⟨rfl, rfl⟩, trivial⟩
      · intro _
        by_cases h0 : i = 0
        · rw [← hxa h0]; exact he
        · exact hi1 (by omega)
      · intro _
        rw [← hxb (by omega)]; exact he
  have hge : i = 2 := by simp at h; omega
  clear h
  subst hge
  have ha := hi1 (by omega)
  have hb := hi2 (by omega)
  rw [if_neg (by simp [ha]), if_neg (by simp [hb])]
  clear hE
  refine awp_exit (awp_seq (awp_seq ?_))
  refine tx ?_
  refine fA fi44_3 rfl rfl ?_
  refine l1 Tryd.underlying3 rfl rfl rfl ⟨rfl, trivial⟩ ?_
  refine r_pure a_lss rfl rfl ?_
  refine mP rfl rfl ?_
  refine mb2 _ rfl rfl (fun hb => (b_fieldAddr fi44_3 rfl)) (fun _ => trivial) ?_
  refine mb2 _ rfl rfl (fun hb => (a_load1 Tryd.underlying3 rfl (by first | rfl | assumption))) (fun _ => ⟨rfl, trivial⟩) ?_
  refine mb2 _ rfl rfl (fun hb => a_gtr) (fun _ => trivial) ?_
  refine r_pure (a_or (by first | exact id | (simp; done) | grind)) rfl rfl ?_
  refine mP rfl rfl ?_
  refine mb2 _ rfl rfl (fun hb => (b_fieldAddr fi44_4 rfl)) (fun _ => trivial) ?_
  refine mb2 _ rfl rfl (fun hb => (a_load1 Tryd.underlying3 rfl (by first | rfl | assumption))) (fun _ => ⟨rfl, trivial⟩) ?_
  refine mb2 _ rfl rfl (fun hb => a_lss) (fun _ => trivial) ?_
  refine r_pure (a_or (by first | exact id | (simp; done) | grind)) rfl rfl ?_
  refine mP rfl rfl ?_
  refine mb2 _ rfl rfl (fun hb => (b_fieldAddr fi44_4 rfl)) (fun _ => trivial) ?_
  refine mb2 _ rfl rfl (fun hb => (a_load1 Tryd.underlying3 rfl (by first | rfl | assumption))) (fun _ => ⟨rfl, trivial⟩) ?_
  refine mb2 _ rfl rfl (fun hb => a_gtr) (fun _ => trivial) ?_
  refine r_pure (a_or (by first | exact id | (simp; done) | grind)) rfl rfl ?_
  refine mP rfl rfl ?_
  refine mb2 _ rfl rfl (fun hb => (b_fieldAddr fi44_5 rfl)) (fun _ => trivial) ?_
  refine mb2 _ rfl rfl (fun hb => (a_load1 Tryd.underlying3 rfl (by first | rfl | assumption))) (fun _ => ⟨rfl, trivial⟩) ?_
  refine mb2 _ rfl rfl (fun hb => a_lss) (fun _ => trivial) ?_
  refine r_pure (a_or (by first | exact id | (simp; done) | grind)) rfl rfl ?_
  refine mP rfl rfl ?_
  refine mb2 _ rfl rfl (fun hb => (b_fieldAddr fi44_5 rfl)) (fun _ => trivial) ?_
  refine mb2 _ rfl rfl (fun hb => (a_load1 Tryd.underlying3 rfl (by first | rfl | assumption))) (fun _ => ⟨rfl, trivial⟩) ?_
  refine mb2 _ rfl rfl (fun hb => a_gtr) (fun _ => trivial) ?_
  refine r_pure (a_or (by first | exact id | (simp; done) | grind)) rfl rfl ?_
  refine mP rfl rfl ?_
  refine mb2 _ rfl rfl (fun hb => (b_fieldAddr fi44_6 rfl)) (fun _ => trivial) ?_
  refine mb2 _ rfl rfl (fun hb => (a_load1 Tryd.underlying3 rfl (by first | rfl | assumption))) (fun _ => ⟨rfl, trivial⟩) ?_
  refine mb2 _ rfl rfl (fun hb => a_lss) (fun _ => trivial) ?_
  refine r_pure (a_or (by first | exact id | (simp; done) | grind)) rfl rfl ?_
  refine mP rfl rfl ?_
  refine mb2 _ rfl rfl (fun hb => (b_fieldAddr fi44_6 rfl)) (fun _ => trivial) ?_
  refine mb2 _ rfl rfl (fun hb => (a_load1 Tryd.underlying3 rfl (by first | rfl | assumption))) (fun _ => ⟨rfl, trivial⟩) ?_
  refine mb2 _ rfl rfl (fun hb => a_gtr) (fun _ => trivial) ?_
  refine r_pure (a_or (by first | exact id | (simp; done) | grind)) rfl rfl ?_
  refine arun_nil ?_
  refine thn_n ?_
  refine awp_cond _ rfl (fun h => ?_) (fun h => ?_)
  · have h' : k.bad = true := h
    rw [if_pos h']
    refine awp_seq ?_
    refine tx ?_
    refine aP rfl rfl ?_
    refine arun_nil ?_
    refine awp_ret (thn_r ?_)
    refine fT (fun o => o) (.tmp _ _ _ _ rfl .nil) ?_ ?_
    · exact rfl
    · exact trivial
  · have h' : k.bad = false := h
    rw [if_neg (by simp [h'])]
    refine awp_skip (awp_seq ?_)
    refine tx ?_
    refine fA fi44_7 rfl rfl ?_
    refine lN Tryd.underlying42 rfl sz42 rfl rfl ⟨rfl, trivial⟩ ?_
    refine r_callV (fun n => 66 + 1000 * n) (hW) rfl rfl Tryd.func84 rfl rfl (by first | rfl | simp [AV.noSl, AV.noSlL, AObj.noSl, PV.isV, bs_noSl]) (by first | rfl | simp [AV.noSl, AV.noSlL, AObj.noSl, PV.isV, bs_noSl]) rfl rfl rfl (by first | exact trivial | exact ⟨rfl, trivial⟩ | exact ⟨rfl, rfl, trivial⟩) rfl rfl rfl ?_
    refine aP rfl rfl ?_
    refine arun_nil ?_
    refine awp_ret ?_
    refine fT (fun o => o) (.tmp _ _ _ _ rfl .nil) ?_ ?_
    · exact rfl
    · exact trivial

theorem idx_s (n : Int) : Fn Tryd.prog 87 [.p (.v (.int .i64 n))] (.p (.v (.bool (decide (0 < n) && decide (n < 4294967296))))) [] := by
  refine fn_intro Tryd.func87 rfl (Nat.le_of_ble_eq_true rfl) fun w0 A => ?_
  refine awp_seq ?_
  refine tx ?_
  refine aP rfl rfl ?_
  refine arun_nil ?_
  refine awp_seq ?_
  refine tx ?_
  refine mP rfl rfl ?_
  refine r_pure a_gtr rfl rfl ?_
  refine mP rfl rfl ?_
  refine mb2 _ rfl rfl (fun hb => (a_move (r := .p _))) (fun _ => trivial) ?_
  refine mb2 _ rfl rfl (fun hb => a_lss) (fun _ => trivial) ?_
  refine r_pure (a_and (by first | exact id | (simp; done) | grind)) rfl rfl ?_
  refine aP rfl rfl ?_
  refine arun_nil ?_
  refine awp_ret ?_
  refine fT (fun o => o) (.tmp _ _ _ _ rfl .nil) ?_ ?_
  · exact rfl
  · exact trivial

set_option maxHeartbeats 2000000 in
theorem refKFault_s (k : KY) (ok : k.OK) : Fn Tryd.prog 56 [.agg k.cells] (.p (.v (.int .i64 (kE k)))) [] := by
  have hW := refWinFault_s k.ss k.sl k.sb ok.sb0 ok.sb1 ok.sl0 ok.sl1
  refine fn_intro Tryd.func56 rfl (Nat.le_of_ble_eq_true rfl) fun w0 A => ?_
  refine awp_seq ?_
  refine tx ?_
  refine r_run (a_box (X := .agg _) 1 rfl) rfl rfl ⟨rfl, trivial⟩ ?_
  refine aP rfl rfl ?_
  refine arun_nil ?_
  refine awp_seq (awp_seq ?_)
  refine tx ?_
  refine fA fi44_0 rfl rfl ?_
  refine l1 Tryd.underlying4 rfl rfl rfl ⟨rfl, trivial⟩ ?_
  refine r_pure a_not rfl rfl ?_
  refine arun_nil ?_
  refine thn_n ?_
  refine awp_cond _ rfl (fun h => ?_) (fun h => ?_)
  · have hl : k.live = false := by simpa using h
    have hE : kE k = if k.zero = true then 0 else 14 := by unfold kE; rw [if_pos hl]
    rw [hE]
    refine awp_seq (awp_seq ?_)
    refine tx ?_
    refine lN Tryd.underlying44 rfl sz44 rfl rfl ⟨rfl, trivial⟩ ?_
    refine r_pure (b_build pl44 zr44 rfl rfl) rfl rfl ?_
    refine r_pure (a_stneq Tryd.underlying44 rfl rfl (by kernel_rfl) (by kernel_rfl) (by kernel_rfl)) rfl rfl ?_
    refine arun_nil ?_
    refine thn_n ?_
    refine awp_cond _ rfl (fun h => ?_) (fun h => ?_)
    · have hz : ¬ k.zero = true := by
        intro hz
        have hz' : eqL k.vals KY0.vals = true := hz
        have h' : (!eqL k.vals KY0.vals) = true := h
        rw [hz'] at h'; cases h'
      rw [if_neg hz]
      refine awp_seq ?_
      refine tx ?_
      refine aP rfl rfl ?_
      refine arun_nil ?_
      refine awp_ret (thn_r (thn_r ?_))
      refine fT (fun o => o) (.tmp _ _ _ _ rfl .nil) ?_ ?_
      · exact rfl
      · exact trivial
    · have hz : k.zero = true := by
        have h' : (!eqL k.vals KY0.vals) = false := h
        show eqL k.vals KY0.vals = true
        cases hq : eqL k.vals KY0.vals
        · rw [hq] at h'; cases h'
        · rfl
      rw [if_pos hz]
      refine awp_skip (awp_seq ?_)
      refine tx ?_
      refine aP rfl rfl ?_
      refine arun_nil ?_
      refine awp_ret (thn_r ?_)
      refine fT (fun o => o) (.tmp _ _ _ _ rfl .nil) ?_ ?_
      · exact rfl
      · exact trivial
  have hl : k.live = true := by simpa using h
  clear h
  have hE : kE k = if keyE k.send ≠ 0 then keyE k.send else if keyE k.take ≠ 0 then keyE k.take else if k.bad = true then 4 else winFault k.ss k.sl k.sb := by unfold kE; rw [if_neg (by simp [hl])]
  rw [hE]
  refine awp_skip (awp_seq (awp_seq ?_))
  refine tx ?_
  refine fA fi44_1 rfl rfl ?_
  refine l1 Tryd.underlying9 rfl rfl rfl ⟨rfl, trivial⟩ ?_
  refine r_callV (fun n => 14 + 1000 * n) (refFault_s k.send) rfl rfl Tryd.func55 rfl rfl (by first | rfl | simp [AV.noSl, AV.noSlL, AObj.noSl, PV.isV, bs_noSl]) (by first | rfl | simp [AV.noSl, AV.noSlL, AObj.noSl, PV.isV, bs_noSl]) rfl rfl rfl (by first | exact trivial | exact ⟨rfl, trivial⟩ | exact ⟨rfl, rfl, trivial⟩) rfl rfl rfl ?_
  refine aP rfl rfl ?_
  refine arun_nil ?_
  refine awp_seq ?_
  refine tx ?_
  refine mP rfl rfl ?_
  refine r_pure a_neq rfl rfl ?_
  refine arun_nil ?_
  refine thn_n ?_
  refine awp_cond _ rfl (fun h => ?_) (fun h => ?_)
  · have hne : keyE k.send ≠ 0 := by simpa using h
    rw [if_pos hne]
    refine awp_seq ?_
    refine tx ?_
    refine mP rfl rfl ?_
    refine aP rfl rfl ?_
    refine arun_nil ?_
    refine awp_ret (thn_r ?_)
    refine fT (fun o => o) (.tmp _ _ _ _ rfl .nil) ?_ ?_
    · exact rfl
    · exact trivial
  have ha : keyE k.send = 0 := by simpa using h
  clear h
  rw [if_neg (by simp [ha])]
  refine awp_skip (awp_seq (awp_seq ?_))
  refine tx ?_
  refine fA fi44_2 rfl rfl ?_
  refine l1 Tryd.underlying9 rfl rfl rfl ⟨rfl, trivial⟩ ?_
  refine r_callV (fun n => 20 + 1000 * n) (refFault_s k.take) rfl rfl Tryd.func55 rfl rfl (by first | rfl | simp [AV.noSl, AV.noSlL, AObj.noSl, PV.isV, bs_noSl]) (by first | rfl | simp [AV.noSl, AV.noSlL, AObj.noSl, PV.isV, bs_noSl]) rfl rfl rfl (by first | exact trivial | exact ⟨rfl, trivial⟩ | exact ⟨rfl, rfl, trivial⟩) rfl rfl rfl ?_
  refine aP rfl rfl ?_
  refine arun_nil ?_
  refine awp_seq ?_
  refine tx ?_
  refine mP rfl rfl ?_
  refine r_pure a_neq rfl rfl ?_
  refine arun_nil ?_
  refine thn_n ?_
  refine awp_cond _ rfl (fun h => ?_) (fun h => ?_)
  · have hne : keyE k.take ≠ 0 := by simpa using h
    rw [if_pos hne]
    refine awp_seq ?_
    refine tx ?_
    refine mP rfl rfl ?_
    refine aP rfl rfl ?_
    refine arun_nil ?_
    refine awp_ret (thn_r ?_)
    refine fT (fun o => o) (.tmp _ _ _ _ rfl .nil) ?_ ?_
    · exact rfl
    · exact trivial
  have hb : keyE k.take = 0 := by simpa using h
  clear h
  rw [if_neg (by simp [hb])]
  clear hE
  have hbad2 : k.bad = ((((((!(decide (0 < k.mine) && decide (k.mine < 4294967296))) || (!(decide (0 < k.theirs) && decide (k.theirs < 4294967296)))) || decide (k.born < 0)) || decide (1099511627776 < k.born)) || decide (k.counter < 0)) || decide (1099511627776 < k.counter)) := by
    unfold KY.bad
    rw [Bool.eq_iff_iff]
    simp
    omega
  refine awp_skip (awp_seq ?_)
  refine tx ?_
  refine r_pure (a_assign (r := .fn _ _)) rfl rfl ?_
  refine arun_nil ?_
  refine awp_seq (awp_seq ?_)
  refine tx ?_
  refine r_pure (a_move (r := .fn _ _)) rfl rfl ?_
  refine fA fi44_3 rfl rfl ?_
  refine l1 Tryd.underlying3 rfl rfl rfl ⟨rfl, trivial⟩ ?_
  refine r_callV (fun n => 27 + 1000 * n) (idx_s k.mine) rfl rfl Tryd.func87 rfl rfl (by first | rfl | simp [AV.noSl, AV.noSlL, AObj.noSl, PV.isV, bs_noSl]) (by first | rfl | simp [AV.noSl, AV.noSlL, AObj.noSl, PV.isV, bs_noSl]) rfl rfl rfl (by first | exact trivial | exact ⟨rfl, trivial⟩ | exact ⟨rfl, rfl, trivial⟩) rfl rfl rfl ?_
  refine r_pure a_not rfl rfl ?_
  refine mP rfl rfl ?_
  refine mb2 _ rfl rfl (fun hb => (a_move (r := .fn _ _))) (fun _ => trivial) ?_
  refine mb2 _ rfl rfl (fun hb => (b_fieldAddr fi44_4 rfl)) (fun _ => trivial) ?_
  refine mb2 _ rfl rfl (fun hb => (a_load1 Tryd.underlying3 rfl (by first | rfl | assumption))) (fun _ => ⟨rfl, trivial⟩) ?_
  refine mb2 _ rfl rfl (fun _ => a_callS0 Tryd.func87 rfl rfl (idx_s k.theirs) (by first | rfl | simp [AV.okInL, AV.okIn, okInL_map]) rfl) (fun _ => trivial) ?_
  refine mb2 _ rfl rfl (fun hb => a_not) (fun _ => trivial) ?_
  refine r_pure (a_or (by first | exact id | (simp; done) | grind)) rfl rfl ?_
  refine mP rfl rfl ?_
  refine mb2 _ rfl rfl (fun hb => (b_fieldAddr fi44_5 rfl)) (fun _ => trivial) ?_
  refine mb2 _ rfl rfl (fun hb => (a_load1 Tryd.underlying3 rfl (by first | rfl | assumption))) (fun _ => ⟨rfl, trivial⟩) ?_
  refine mb2 _ rfl rfl (fun hb => a_lss) (fun _ => trivial) ?_
  refine r_pure (a_or (by first | exact id | (simp; done) | grind)) rfl rfl ?_
  refine mP rfl rfl ?_
  refine mb2 _ rfl rfl (fun hb => (b_fieldAddr fi44_5 rfl)) (fun _ => trivial) ?_
  refine mb2 _ rfl rfl (fun hb => (a_load1 Tryd.underlying3 rfl (by first | rfl | assumption))) (fun _ => ⟨rfl, trivial⟩) ?_
  refine mb2 _ rfl rfl (fun hb => a_gtr) (fun _ => trivial) ?_
  refine r_pure (a_or (by first | exact id | (simp; done) | grind)) rfl rfl ?_
  refine mP rfl rfl ?_
  refine mb2 _ rfl rfl (fun hb => (b_fieldAddr fi44_6 rfl)) (fun _ => trivial) ?_
  refine mb2 _ rfl rfl (fun hb => (a_load1 Tryd.underlying3 rfl (by first | rfl | assumption))) (fun _ => ⟨rfl, trivial⟩) ?_
  refine mb2 _ rfl rfl (fun hb => a_lss) (fun _ => trivial) ?_
  refine r_pure (a_or (by first | exact id | (simp; done) | grind)) rfl rfl ?_
  refine mP rfl rfl ?_
  refine mb2 _ rfl rfl (fun hb => (b_fieldAddr fi44_6 rfl)) (fun _ => trivial) ?_
  refine mb2 _ rfl rfl (fun hb => (a_load1 Tryd.underlying3 rfl (by first | rfl | assumption))) (fun _ => ⟨rfl, trivial⟩) ?_
  refine mb2 _ rfl rfl (fun hb => a_gtr) (fun _ => trivial) ?_
  refine r_pure (a_or (by first | exact id | (simp; done) | grind)) rfl rfl ?_
  refine arun_nil ?_
  refine thn_n ?_
  refine awp_cond _ rfl (fun h => ?_) (fun h => ?_)
  · have h' : k.bad = true := hbad2.trans h
    rw [if_pos h']
    refine awp_seq ?_
    refine tx ?_
    refine aP rfl rfl ?_
    refine arun_nil ?_
    refine awp_ret (thn_r ?_)
    refine fT (fun o => o) (.tmp _ _ _ _ rfl .nil) ?_ ?_
    · exact rfl
    · exact trivial
  · have h' : k.bad = false := hbad2.trans h
    rw [if_neg (by simp [h'])]
    refine awp_skip (awp_seq ?_)
    refine tx ?_
    refine fA fi44_7 rfl rfl ?_
    refine lN Tryd.underlying42 rfl sz42 rfl rfl ⟨rfl, trivial⟩ ?_
    refine r_callV (fun n => 58 + 1000 * n) (hW) rfl rfl Tryd.func88 rfl rfl (by first | rfl | simp [AV.noSl, AV.noSlL, AObj.noSl, PV.isV, bs_noSl]) (by first | rfl | simp [AV.noSl, AV.noSlL, AObj.noSl, PV.isV, bs_noSl]) rfl rfl rfl (by first | exact trivial | exact ⟨rfl, trivial⟩ | exact ⟨rfl, rfl, trivial⟩) rfl rfl rfl ?_
    refine aP rfl rfl ?_
    refine arun_nil ?_
    refine awp_ret ?_
    refine fT (fun o => o) (.tmp _ _ _ _ rfl .nil) ?_ ?_
    · exact rfl
    · exact trivial
end Go.Proofs.YtcjnecmgificmaaDoor
