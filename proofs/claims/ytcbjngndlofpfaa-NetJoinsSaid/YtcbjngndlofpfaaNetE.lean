/- Compare of package net, NetOrder of its reference; the law NetHolds walked. -/
import Derived.Test.YtcbjngndlofpfaaNetD
import Derived.Deep.RegionHeld3
namespace Go.Proofs.Ytcbjngndlofpfaa
open Go.RowKit Go.Sort
set_option linter.unusedVariables false

def ord3 (a b : Int) : Int := if a < b then -1 else if b < a then 1 else 0
/-- the order of two nets -/
def netOrd (a n b m : Int) : Int := if a = b then ord3 n m else ord3 a b

theorem cmpU_g (a b : Int) : Gives Try.prog 62 #[.int .u32 a, .int .u32 b] (.int .i64 (ord3 a b)) := by
  intro w
  have HE := Lib.hid (show ord3 a b = if a < b then -1 else if b < a then 1 else 0 from rfl)
  go_enter Try.func62, Try.ntmps62
  go_wp2
  all_goals (go_ret; exact ⟨ret_int (by rw [HE.out]; (repeat' split) <;> simp_all <;> omega), by (repeat' (first | exact Below.refl _ _ | assumption | refine bstep ?_ (by assumption) | refine balloc ?_ _ | refine bdrew ?_ | refine bdrewN ?_ _ | refine bset ?_ ?_ _ | (show _ ≤ _; simp; omega) | (simp; done)))⟩)

theorem cmpI_g (a b : Int) : Gives Try.prog 63 #[.int .i64 a, .int .i64 b] (.int .i64 (ord3 a b)) := by
  intro w
  have HE := Lib.hid (show ord3 a b = if a < b then -1 else if b < a then 1 else 0 from rfl)
  go_enter Try.func63, Try.ntmps63
  go_wp2
  all_goals (go_ret; exact ⟨ret_int (by rw [HE.out]; (repeat' split) <;> simp_all <;> omega), by (repeat' (first | exact Below.refl _ _ | assumption | refine bstep ?_ (by assumption) | refine balloc ?_ _ | refine bdrew ?_ | refine bdrewN ?_ _ | refine bset ?_ ?_ _ | (show _ ≤ _; simp; omega) | (simp; done)))⟩)

def or2 (x y : Int) : Int := if x = 0 then y else x

/-- cmp.Or of two numbers that lie in a block -/
theorem or2_c (b : Nat) (x y : Int) (w : World) (h0 : w.cell? ⟨b, 0, none⟩ = some (.int .i64 x)) (h1 : w.cell? ⟨b, 1, none⟩ = some (.int .i64 y)) :
    Calls Try.prog 61 #[.slice (some ⟨b, 0, none⟩) 2 2] w fun e w' => e = .returned (.int .i64 (or2 x y)) ∧ w = w' := by
  by_cases hx : x = 0
  · have hd : (x != 0) = false := by simp [hx]
    have HX := Lib.hid hx
    clear hx
    by_cases hy : y = 0
    · have hdy : (y != 0) = false := by simp [hy]
      have HY := Lib.hid hy
      clear hy
      go_enter Try.func61, Try.ntmps61
      go_wp2
      refine wp_loop_rounds 3 ?_
      repeat any_goals (rw [rounds_succ]; go_wp2)
      go_ret
      exact ⟨ret_int (by unfold or2; rw [HX.out, HY.out]; simp), rfl⟩
    · have hdy : (y != 0) = true := by simp [hy]
      have HY := Lib.hid hy
      clear hy
      go_enter Try.func61, Try.ntmps61
      go_wp2
      refine wp_loop_rounds 3 ?_
      repeat any_goals (rw [rounds_succ]; go_wp2)
      go_ret
      exact ⟨ret_int (by unfold or2; rw [HX.out]; simp), rfl⟩
  · have hd : (x != 0) = true := by simp [hx]
    have HX := Lib.hid hx
    clear hx
    go_enter Try.func61, Try.ntmps61
    go_wp2
    refine wp_loop_rounds 3 ?_
    repeat any_goals (rw [rounds_succ]; go_wp2)
    go_ret
    exact ⟨ret_int (by unfold or2; rw [if_neg HX.out]), rfl⟩

set_option maxHeartbeats 1000000 in
theorem compare_g (a n b m : Int) : Gives Try.prog 41 #[.agg #[.int .u32 a, .int .i64 n], .agg #[.int .u32 b, .int .i64 m]] (.int .i64 (netOrd a n b m)) := by
  intro w
  have HE := Lib.hid (show netOrd a n b m = or2 (ord3 a b) (ord3 n m) by
    unfold netOrd or2 ord3; (repeat' split) <;> simp_all <;> omega)
  go_enter Try.func41, Try.ntmps41
  go_wp2_with fail
  have hcq := grow_cell ((w.alloc (Obj.cells #[.int .u32 a, .int .i64 n] 32)).alloc (Obj.cells #[.int .u32 b, .int .i64 m] 32))
  (refine wp_quietb_tail 10 (by kernel_rfl) (by kernel_rfl) ?_; simp only [List.take_succ_cons, List.take_zero, List.drop_succ_cons, List.drop_zero]; (repeat (first | go_big_quiet_step ((first | (go_at_call 62; exact (cmpU_g a b).q) | (go_at_call 63; exact (cmpI_g n m).q))) | quiet_step ((first | (go_at_call 62; exact (cmpU_g a b).q) | (go_at_call 63; exact (cmpI_g n m).q))))); refine wpQuiet_nil ?_)
  intro w1 hb_w1
  clear hcq
  go_wp2_with fail
  refine (or2_c w1.heap.size (ord3 a b) (ord3 n m) _ ?_ ?_).mono ?_
  · simp
  · simp
  rintro e w2 ⟨rfl, rfl⟩
  go_wp2
  go_ret
  exact ⟨ret_int HE.out.symm, by (repeat' (first | exact Below.refl _ _ | assumption | refine bstep ?_ (by assumption) | refine balloc ?_ _ | refine bdrew ?_ | refine bdrewN ?_ _ | refine bset ?_ ?_ _ | (show _ ≤ _; simp; omega) | (simp; done)))⟩

set_option maxHeartbeats 1000000 in
theorem order_g (a n b m : Int) : Gives Try.prog 44 #[.agg #[.int .u32 a, .int .i64 n], .agg #[.int .u32 b, .int .i64 m]] (.int .i64 (netOrd a n b m)) := by
  intro w
  have HE := Lib.hid (show netOrd a n b m = if a = b then (if n < m then -1 else if m < n then 1 else 0) else (if a < b then -1 else if b < a then 1 else 0) from rfl)
  go_enter Try.func44, Try.ntmps44
  go_wp2
  all_goals (go_ret; exact ⟨ret_int (by rw [HE.out]; (repeat' split) <;> simp_all <;> omega), by (repeat' (first | exact Below.refl _ _ | assumption | refine bstep ?_ (by assumption) | refine balloc ?_ _ | refine bdrew ?_ | refine bdrewN ?_ _ | refine bset ?_ ?_ _ | (show _ ≤ _; simp; omega) | (simp; done)))⟩)

set_option maxHeartbeats 1000000 in
theorem law_NetHolds (a n b m x : Int) (w : World) (wa : (Lit.int .u32 a).wf = true) (wn : (Lit.int .i64 n).wf = true) (wb : (Lit.int .u32 b).wf = true) (wm : (Lit.int .i64 m).wf = true) (wx : (Lit.int .u32 x).wf = true) :
    Calls Try.prog 12 #[.agg #[.int .u32 a, .int .i64 n], .agg #[.int .u32 b, .int .i64 m], .int .u32 x] w fun e w' => e = .returned (.bool true) ∧ Below w.heap.size w w' := by
  obtain ⟨h2, h3⟩ := wfb_u32 wa
  obtain ⟨h4, h5⟩ := wfb_u32 wb
  obtain ⟨h6, h7⟩ := wfb_u32 wx
  clear wa wb wx wn wm
  go_enter Try.func12, Try.ntmps12
  go_wp2_with fail
  have hcq := grow_cell ((w.alloc (Obj.cells #[.int .u32 a, .int .i64 n] 32)).alloc (Obj.cells #[.int .u32 b, .int .i64 m] 32))
  (refine wp_quietb (by kernel_rfl) (by kernel_rfl) ?_; (repeat (first | go_big_quiet_step ((first | (go_at_call 39; exact (has_g a n x h2 h3 h6 h7).q) | (go_at_call 40; exact (holds_g a n b m h2 h3 h4 h5).q) | (go_at_call 41; exact (compare_g a n b m).q))) | quiet_step ((first | (go_at_call 39; exact (has_g a n x h2 h3 h6 h7).q) | (go_at_call 40; exact (holds_g a n b m h2 h3 h4 h5).q) | (go_at_call 41; exact (compare_g a n b m).q))))); refine wpQuiet_nil ?_)
  intro w1 hb_w1
  obtain ⟨hc_w1, hf_w1⟩ := bcell hb_w1
  have hq := hb_w1.size
  simp at hq
  have hl0 : w.heap.size < w1.heap.size := by omega
  have hl1 : w.heap.size + 1 < w1.heap.size := by omega
  clear hcq
  go_wp2_with fail
  have hcq := grow_cell w1
  (refine wp_quietb (by kernel_rfl) (by kernel_rfl) ?_; (repeat (first | go_big_quiet_step ((first | (go_at_call 42; exact (refHas_g a n x h2 h3 h6 h7).q) | (go_at_call 43; exact (refHolds_g a n b m h2 h3 h4 h5).q) | (go_at_call 44; exact (order_g a n b m).q))) | quiet_step ((first | (go_at_call 42; exact (refHas_g a n x h2 h3 h6 h7).q) | (go_at_call 43; exact (refHolds_g a n b m h2 h3 h4 h5).q) | (go_at_call 44; exact (order_g a n b m).q))))); refine wpQuiet_nil ?_)
  intro w2 hb_w2
  clear hcq
  go_wp2
  all_goals (go_ret; exact ⟨rfl, by (repeat' (first | exact Below.refl _ _ | assumption | refine bstep ?_ (by assumption) | refine balloc ?_ _ | refine bdrew ?_ | refine bdrewN ?_ _ | refine bset ?_ ?_ _ | (show _ ≤ _; simp; omega) | (simp; done)))⟩)
end Go.Proofs.Ytcbjngndlofpfaa
