/- cattlecreeplaw.NetJoins returns true for every input, under no condition. -/
import Derived.Test.YtcbjngndlofpfaaRows
import Derived.Test.YtcbjngndlofpfaaNetH
import Derived.WalkKit
import Derived.ProofKit
import Derived.OpenShut
import Derived.ShutString
import Derived.ChangeOld
import Derived.Below
import Derived.Lib.SmallJoins
namespace Go.Proofs.Ytcbjngndlofpfaa.netJoinsDone
open Go.ChangeShapes Go.WideShapes Go.ChangeAt Go.RowKit Go.Joins
open Go.ChangeMaps (open_string shut_string)
set_option linter.unusedVariables false

theorem own : ownKnob Try.prog.godebug = none := by kernel_rfl
theorem laidOut : laidOutB Try.prog = true := by kernel_rfl
theorem cellsNet : Try.prog.cellsOf 32 = 2 := by kernel_rfl

set_option maxRecDepth 100000 in
theorem lifted (os : Os) (started : os.Started) (H : Type) (enc : TypeId × Value → H) :
    ReturnsInHanded {} Try.checked os 10 .any (Rows.netJoinsSpec.pre6 enc Try.prog Try.f10 Rows.netJoinsRow.domain false) (Rows.netJoinsSpec.post enc Try.prog Try.f10 false true false false) := by
  refine returnsInHanded_of_change (C := Try.checked) own started (by kernel_rfl) Try.func10
    (ChangeSpec.witness6 (enc := enc) (C := Try.checked) false ⟨#[], #[.agg #[.int .u32 0, .int .i64 0], .agg #[.int .u32 0, .int .i64 0]], []⟩ 8 (by kernel_rfl) (by kernel_rfl) (by kernel_rfl) (by kernel_rfl)) ?_
  intro W base args ds gs before hval0 hW hcnd _
  have hval : ∀ (j : Nat) t v, Try.f10.params[j]? = some t → args[j]? = some v → Value.okWide Try.prog W .any base t v := hval0
  have hW' := hW
  obtain ⟨p, q, hA0, hV, rfl, hfz, hnd⟩ := hW
  have hA : DataW.TrodAll enc Try.prog W 0 (fun _ => true) true Try.f10.params.toList args.toList ds p := hA0
  rw [Try.params10] at hA hval
  obtain ⟨v0, vs0, d0, ds0, p0, q0, hargs, rfl, rfl, h0, r0⟩ := trodAll_cons hA
  obtain ⟨v1, vs1, d1, ds1, p1, q1, rfl, rfl, rfl, h1, r1⟩ := trodAll_cons r0
  obtain ⟨rfl, rfl, rfl⟩ := trodAll_nil r1
  obtain rfl : args = #[v0, v1] := by cases args; simp_all
  obtain ⟨rfl, rfl⟩ := trodVars_none hV
  have k0 := h0
  have lt0 : ∀ x ∈ p0, x.block < W.heap.size := by obtain ⟨m, hm⟩ := k0; exact DataW.trod_lt m _ _ _ hm
  have k1 := h1
  have lt1 : ∀ x ∈ p1, x.block < W.heap.size := by obtain ⟨m, hm⟩ := k1; exact DataW.trod_lt m _ _ _ hm
  obtain ⟨c0_0, c0_1, y0_0, y0_1, m0, hv0, hd0, hp0, hy0_0, hy0_1⟩ := open_agg2 Try.underlying32 (by kernel_rfl) cellsNet (hval 0 32 v0 rfl rfl) h0
  obtain ⟨f0_0, hvf0_0, hdf0_0, wf0_0⟩ := DataW.trod_int Try.underlying30 hy0_0
  simp at hvf0_0; subst hvf0_0
  obtain ⟨f0_1, hvf0_1, hdf0_1, wf0_1⟩ := DataW.trod_int Try.underlying3 hy0_1
  simp at hvf0_1; subst hvf0_1
  subst hv0
  obtain ⟨c1_0, c1_1, y1_0, y1_1, m1, hv1, hd1, hp1, hy1_0, hy1_1⟩ := open_agg2 Try.underlying32 (by kernel_rfl) cellsNet (hval 1 32 v1 rfl rfl) h1
  obtain ⟨f1_0, hvf1_0, hdf1_0, wf1_0⟩ := DataW.trod_int Try.underlying30 hy1_0
  simp at hvf1_0; subst hvf1_0
  obtain ⟨f1_1, hvf1_1, hdf1_1, wf1_1⟩ := DataW.trod_int Try.underlying3 hy1_1
  simp at hvf1_1; subst hvf1_1
  subst hv1
  clear hA0 hval0
  refine (law_NetJoins f0_0 f0_1 f1_0 f1_1 W wf0_0 wf0_1 wf1_0 wf1_1).mono fun e W' ⟨he, bel⟩ => ?_
  subst he
  exact ⟨_, rfl, _, _, _, [], _, [], hW', trodAll_mk1 (shut_bool Try.underlying4 _), (trodAll_cons_mk (Below.trod laidOut (by kernel_rfl) (of_decide_eq_true (by kernel_rfl)) k0 bel lt0) (trodAll_cons_mk (Below.trod laidOut (by kernel_rfl) (of_decide_eq_true (by kernel_rfl)) k1 bel lt1) trodAll_mk0)), rfl, bel.frame _, fun h => by cases h⟩

theorem over : Rows.netJoinsRow.holds Try.pinned (OpenSpec.ofChange Rows.netJoinsSpec) :=
  OpenClaim.holds_of_wide 10 Try.f10 rfl rfl rfl rfl rfl rfl rfl ⟨rfl, rfl, rfl, rfl, rfl⟩ rfl rfl rfl rfl rfl (by kernel_rfl) Try.func10 (by kernel_rfl)
    (of_decide_eq_true (by kernel_rfl)) (by unfold Func.isWrapper; rw [if_neg (of_decide_eq_false (by kernel_rfl))]; exact ⟨rfl, rfl⟩)
    (fun os started H enc _ => lifted os started H enc)

theorem proved : Rows.NetJoinsSaid := over
end Go.Proofs.Ytcbjngndlofpfaa.netJoinsDone

