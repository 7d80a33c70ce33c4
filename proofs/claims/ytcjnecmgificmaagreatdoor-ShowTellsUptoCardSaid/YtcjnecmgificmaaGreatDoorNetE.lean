/- Compare of package net, NetOrder of its reference; the law NetHolds walked. -/
import Derived.Test.YtcjnecmgificmaaGreatDoorNetD
import Derived.Deep.RegionHeld3
namespace Go.Proofs.YtcjnecmgificmaaGreatDoor
open Go.RowKit Go.Sort
set_option linter.unusedVariables false

def ord3 (a b : Int) : Int := if a < b then -1 else if b < a then 1 else 0
/-- the order of two nets -/
def netOrd (a n b m : Int) : Int := if a = b then ord3 n m else ord3 a b

theorem cmpU_g (a b : Int) : Gives Tryz.prog 80 #[.int .u32 a, .int .u32 b] (.int .i64 (ord3 a b)) := by
  intro w
  have HE := Lib.hid (show ord3 a b = if a < b then -1 else if b < a then 1 else 0 from rfl)
  go_enter Tryz.func80, Tryz.ntmps80
  go_wp2
  all_goals (go_ret; exact ⟨ret_int (by rw [HE.out]; (repeat' split) <;> simp_all <;> omega), by (repeat' (first | exact Below.refl _ _ | assumption | refine bstep ?_ (by assumption) | refine balloc ?_ _ | refine bdrew ?_ | refine bdrewN ?_ _ | refine bset ?_ ?_ _ | (show _ ≤ _; simp; omega) | (simp; done)))⟩)

theorem cmpI_g (a b : Int) : Gives Tryz.prog 81 #[.int .i64 a, .int .i64 b] (.int .i64 (ord3 a b)) := by
  intro w
  have HE := Lib.hid (show ord3 a b = if a < b then -1 else if b < a then 1 else 0 from rfl)
  go_enter Tryz.func81, Tryz.ntmps81
  go_wp2
  all_goals (go_ret; exact ⟨ret_int (by rw [HE.out]; (repeat' split) <;> simp_all <;> omega), by (repeat' (first | exact Below.refl _ _ | assumption | refine bstep ?_ (by assumption) | refine balloc ?_ _ | refine bdrew ?_ | refine bdrewN ?_ _ | refine bset ?_ ?_ _ | (show _ ≤ _; simp; omega) | (simp; done)))⟩)

def or2 (x y : Int) : Int := if x = 0 then y else x

/-- cmp.Or of two numbers that lie in a block -/
theorem or2_c (b : Nat) (x y : Int) (w : World) (h0 : w.cell? ⟨b, 0, none⟩ = some (.int .i64 x)) (h1 : w.cell? ⟨b, 1, none⟩ = some (.int .i64 y)) :
    Calls Tryz.prog 79 #[.slice (some ⟨b, 0, none⟩) 2 2] w fun e w' => e = .returned (.int .i64 (or2 x y)) ∧ w = w' := by
  by_cases hx : x = 0
  · have hd : (x != 0) = false := by simp [hx]
    have HX := Lib.hid hx
    clear hx
    by_cases hy : y = 0
    · have hdy : (y != 0) = false := by simp [hy]
      have HY := Lib.hid hy
      clear hy
      go_enter Tryz.func79, Tryz.ntmps79
      go_wp2
      refine wp_loop_rounds 3 ?_
      repeat any_goals (rw [rounds_succ]; go_wp2)
      go_ret
      exact ⟨ret_int (by unfold or2; rw [HX.out, HY.out]; simp), rfl⟩
    · have hdy : (y != 0) = true := by simp [hy]
      have HY := Lib.hid hy
      clear hy
      go_enter Tryz.func79, Tryz.ntmps79
      go_wp2
      refine wp_loop_rounds 3 ?_
      repeat any_goals (rw [rounds_succ]; go_wp2)
      go_ret
      exact ⟨ret_int (by unfold or2; rw [HX.out]; simp), rfl⟩
  · have hd : (x != 0) = true := by simp [hx]
    have HX := Lib.hid hx
    clear hx
    go_enter Tryz.func79, Tryz.ntmps79
    go_wp2
    refine wp_loop_rounds 3 ?_
    repeat any_goals (rw [rounds_succ]; go_wp2)
    go_ret
    exact ⟨ret_int (by unfold or2; rw [if_neg HX.out]), rfl⟩

set_option maxHeartbeats 1000000 in
theorem compare_g (a n b m : Int) : Gives Tryz.prog 48 #[.agg #[.int .u32 a, .int .i64 n], .agg #[.int .u32 b, .int .i64 m]] (.int .i64 (netOrd a n b m)) := by
  intro w
  have HE := Lib.hid (show netOrd a n b m = or2 (ord3 a b) (ord3 n m) by
    unfold netOrd or2 ord3; (repeat' split) <;> simp_all <;> omega)
  go_enter Tryz.func48, Tryz.ntmps48
  go_wp2_with fail
  have hcq := grow_cell ((w.alloc (Obj.cells #[.int .u32 a, .int .i64 n] 55)).alloc (Obj.cells #[.int .u32 b, .int .i64 m] 55))
  (refine wp_quietb_tail 10 (by kernel_rfl) (by kernel_rfl) ?_; simp only [List.take_succ_cons, List.take_zero, List.drop_succ_cons, List.drop_zero]; (repeat (first | go_big_quiet_step ((first | (go_at_call 80; exact (cmpU_g a b).q) | (go_at_call 81; exact (cmpI_g n m).q))) | quiet_step ((first | (go_at_call 80; exact (cmpU_g a b).q) | (go_at_call 81; exact (cmpI_g n m).q))))); refine wpQuiet_nil ?_)
  intro w1 hb_w1
  clear hcq
  go_wp2_with fail
  refine (or2_c w1.heap.size (ord3 a b) (ord3 n m) _ ?_ ?_).mono ?_
  · simp
  · simp
  rintro e w2 ⟨rfl, rfl⟩
  go_wp2
  go_ret
  exact ⟨ret_int HE.out.symm, by (repeat' (first | exact Below.refl _ _ | assumption | refine bstep ?_ (by assumption) | refine balloc ?_ _ | refine bdrew ?_ | refine bdrewN ?_ _ | refine bset ?_ ?_ _ | (show _ ≤ _; simp; omega) | (simp; done)))⟩

set_option maxHeartbeats 1000000 in
theorem order_g (a n b m : Int) : Gives Tryz.prog 52 #[.agg #[.int .u32 a, .int .i64 n], .agg #[.int .u32 b, .int .i64 m]] (.int .i64 (netOrd a n b m)) := by
  intro w
  have HE := Lib.hid (show netOrd a n b m = if a = b then (if n < m then -1 else if m < n then 1 else 0) else (if a < b then -1 else if b < a then 1 else 0) from rfl)
  go_enter Tryz.func52, Tryz.ntmps52
  go_wp2
  all_goals (go_ret; exact ⟨ret_int (by rw [HE.out]; (repeat' split) <;> simp_all <;> omega), by (repeat' (first | exact Below.refl _ _ | assumption | refine bstep ?_ (by assumption) | refine balloc ?_ _ | refine bdrew ?_ | refine bdrewN ?_ _ | refine bset ?_ ?_ _ | (show _ ≤ _; simp; omega) | (simp; done)))⟩)

end Go.Proofs.YtcjnecmgificmaaGreatDoor
