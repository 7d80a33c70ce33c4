/- cattlecreeplaw.ShakeAnswers returns true for every input, under no condition. -/
import Derived.Test.YtmdkfhmmhiofbaaRows
import Derived.Test.YtmdkfhmmhiofbaaSk7
import Derived.WalkKit
import Derived.ProofKit
import Derived.OpenShut
import Derived.ShutString
import Derived.ChangeOld
import Derived.Below
import Derived.Lib.SmallJoins
namespace Go.Proofs.Ytmdkfhmmhiofbaa.shakeAnswersDone
open Go.ChangeShapes Go.WideShapes Go.ChangeAt Go.RowKit Go.Joins
set_option linter.unusedVariables false

theorem own : ownKnob Try.prog.godebug = none := by kernel_rfl
theorem laidOut : laidOutB Try.prog = true := by kernel_rfl

set_option maxRecDepth 100000 in
theorem lifted (os : Os) (started : os.Started) (H : Type) (enc : TypeId × Value → H) :
    ReturnsInHanded {} Try.checked os 3 .any (Rows.shakeAnswersSpec.pre6 enc Try.prog Try.f3 Rows.shakeAnswersRow.domain false) (Rows.shakeAnswersSpec.post enc Try.prog Try.f3 false true false false) := by
  refine returnsInHanded_of_change_sized (C := Try.checked) own started (by kernel_rfl) Try.func3
    (ChangeSpec.witness6 (enc := enc) (C := Try.checked) false ⟨#[], #[(.string ⟨#[]⟩), (.string ⟨#[]⟩), (.string ⟨#[]⟩), (.agg #[(.int .i64 0), (.int .i64 0), (.int .i64 0), (.int .i64 0), (.slice none 0 0)]), (.int .i64 0), (.string ⟨#[]⟩), (.int .i64 0)], []⟩ 8 (by kernel_rfl) (by kernel_rfl) (by kernel_rfl) (by kernel_rfl)) ?_
  intro W base args ds gs before hval0 hW hcnd hz _
  have hval : ∀ (j : Nat) t v, Try.f3.params[j]? = some t → args[j]? = some v → Value.okWide Try.prog W .any base t v := hval0
  have hW' := hW
  obtain ⟨p, q, hA0, hV, rfl, hfz, hnd⟩ := hW
  have hA : DataW.TrodAll enc Try.prog W 0 (fun _ => true) true Try.f3.params.toList args.toList ds p := hA0
  rw [Try.params3] at hA hval
  obtain ⟨v0, vs0, d0, ds0, p0, q0, hargs, rfl, rfl, h0, r0⟩ := trodAll_cons hA
  obtain ⟨v1, vs1, d1, ds1, p1, q1, rfl, rfl, rfl, h1, r1⟩ := trodAll_cons r0
  obtain ⟨v2, vs2, d2, ds2, p2, q2, rfl, rfl, rfl, h2, r2⟩ := trodAll_cons r1
  obtain ⟨v3, vs3, d3, ds3, p3, q3, rfl, rfl, rfl, h3, r3⟩ := trodAll_cons r2
  obtain ⟨v4, vs4, d4, ds4, p4, q4, rfl, rfl, rfl, h4, r4⟩ := trodAll_cons r3
  obtain ⟨v5, vs5, d5, ds5, p5, q5, rfl, rfl, rfl, h5, r5⟩ := trodAll_cons r4
  obtain ⟨v6, vs6, d6, ds6, p6, q6, rfl, rfl, rfl, h6, r6⟩ := trodAll_cons r5
  obtain ⟨rfl, rfl, rfl⟩ := trodAll_nil r6
  obtain rfl : args = #[v0, v1, v2, v3, v4, v5, v6] := by cases args; simp_all
  obtain ⟨rfl, rfl⟩ := trodVars_none hV
  have k0 := h0
  have lt0 : ∀ x ∈ p0, x.block < W.heap.size := by obtain ⟨m, hm⟩ := k0; exact DataW.trod_lt m _ _ _ hm
  obtain ⟨x0, ty0, re0⟩ := arg_rep (d := 10) Try.underlying9 (by kernel_rfl) (hval 0 9 v0 rfl rfl) h0 (fun z hz' => of_decide_eq_true (List.all_eq_true.1 hz z (DataW.weights_mem_each (j := 0) (t := 9) rfl rfl z hz')))
  have k1 := h1
  have lt1 : ∀ x ∈ p1, x.block < W.heap.size := by obtain ⟨m, hm⟩ := k1; exact DataW.trod_lt m _ _ _ hm
  obtain ⟨x1, ty1, re1⟩ := arg_rep (d := 10) Try.underlying9 (by kernel_rfl) (hval 1 9 v1 rfl rfl) h1 (fun z hz' => of_decide_eq_true (List.all_eq_true.1 hz z (DataW.weights_mem_each (j := 1) (t := 9) rfl rfl z hz')))
  have k2 := h2
  have lt2 : ∀ x ∈ p2, x.block < W.heap.size := by obtain ⟨m, hm⟩ := k2; exact DataW.trod_lt m _ _ _ hm
  obtain ⟨x2, ty2, re2⟩ := arg_rep (d := 10) Try.underlying9 (by kernel_rfl) (hval 2 9 v2 rfl rfl) h2 (fun z hz' => of_decide_eq_true (List.all_eq_true.1 hz z (DataW.weights_mem_each (j := 2) (t := 9) rfl rfl z hz')))
  have k3 := h3
  have lt3 : ∀ x ∈ p3, x.block < W.heap.size := by obtain ⟨m, hm⟩ := k3; exact DataW.trod_lt m _ _ _ hm
  obtain ⟨x3, ty3, re3⟩ := arg_rep (d := 10) Try.underlying24 (by kernel_rfl) (hval 3 24 v3 rfl rfl) h3 (fun z hz' => of_decide_eq_true (List.all_eq_true.1 hz z (DataW.weights_mem_each (j := 3) (t := 24) rfl rfl z hz')))
  have k4 := h4
  have lt4 : ∀ x ∈ p4, x.block < W.heap.size := by obtain ⟨m, hm⟩ := k4; exact DataW.trod_lt m _ _ _ hm
  obtain ⟨x4, ty4, re4⟩ := arg_rep (d := 10) Try.underlying3 (by kernel_rfl) (hval 4 3 v4 rfl rfl) h4 (fun z hz' => of_decide_eq_true (List.all_eq_true.1 hz z (DataW.weights_mem_each (j := 4) (t := 3) rfl rfl z hz')))
  have k5 := h5
  have lt5 : ∀ x ∈ p5, x.block < W.heap.size := by obtain ⟨m, hm⟩ := k5; exact DataW.trod_lt m _ _ _ hm
  obtain ⟨x5, ty5, re5⟩ := arg_rep (d := 10) Try.underlying9 (by kernel_rfl) (hval 5 9 v5 rfl rfl) h5 (fun z hz' => of_decide_eq_true (List.all_eq_true.1 hz z (DataW.weights_mem_each (j := 5) (t := 9) rfl rfl z hz')))
  have k6 := h6
  have lt6 : ∀ x ∈ p6, x.block < W.heap.size := by obtain ⟨m, hm⟩ := k6; exact DataW.trod_lt m _ _ _ hm
  obtain ⟨x6, ty6, re6⟩ := arg_rep (d := 10) Try.underlying3 (by kernel_rfl) (hval 6 3 v6 rfl rfl) h6 (fun z hz' => of_decide_eq_true (List.all_eq_true.1 hz z (DataW.weights_mem_each (j := 6) (t := 3) rfl rfl z hz')))
  clear hA0 hval0
  have hC := law_ShakeAnswers x0 ty0 x1 ty1 x2 ty2 x3 ty3 x4 ty4 x5 ty5 x6 ty6 W (fun b => b < W.heap.size) [v0, v1, v2, v3, v4, v5, v6] (fun _ h => h) (GI.nil rfl rfl W) (by simp only [RepL]; exact ⟨_, _, rfl, re0, _, _, rfl, re1, _, _, rfl, re2, _, _, rfl, re3, _, _, rfl, re4, _, _, rfl, re5, _, _, rfl, re6, rfl⟩)
  refine hC.mono fun e W' ⟨v, he, S', m', hr, hm⟩ => ?_
  have hv := rep_v hr
  subst hv
  subst he
  have bel := hm.bel
  exact ⟨_, rfl, _, _, _, [], _, [], hW', trodAll_mk1 (shut_bool Try.underlying4 _), (trodAll_cons_mk (Below.trod laidOut (by kernel_rfl) (of_decide_eq_true (by kernel_rfl)) k0 bel lt0) (trodAll_cons_mk (Below.trod laidOut (by kernel_rfl) (of_decide_eq_true (by kernel_rfl)) k1 bel lt1) (trodAll_cons_mk (Below.trod laidOut (by kernel_rfl) (of_decide_eq_true (by kernel_rfl)) k2 bel lt2) (trodAll_cons_mk (Below.trod laidOut (by kernel_rfl) (of_decide_eq_true (by kernel_rfl)) k3 bel lt3) (trodAll_cons_mk (Below.trod laidOut (by kernel_rfl) (of_decide_eq_true (by kernel_rfl)) k4 bel lt4) (trodAll_cons_mk (Below.trod laidOut (by kernel_rfl) (of_decide_eq_true (by kernel_rfl)) k5 bel lt5) (trodAll_cons_mk (Below.trod laidOut (by kernel_rfl) (of_decide_eq_true (by kernel_rfl)) k6 bel lt6) trodAll_mk0))))))), rfl, bel.frame _, fun h => by cases h⟩

theorem over : Rows.shakeAnswersRow.holds Try.pinned (OpenSpec.ofChange Rows.shakeAnswersSpec) :=
  OpenClaim.holds_of_wide 3 Try.f3 rfl rfl rfl rfl rfl rfl rfl ⟨rfl, rfl, rfl, rfl, rfl⟩ rfl rfl rfl rfl rfl (by kernel_rfl) Try.func3 (by kernel_rfl)
    (of_decide_eq_true (by kernel_rfl)) (by unfold Func.isWrapper; rw [if_neg (of_decide_eq_false (by kernel_rfl))]; exact ⟨rfl, rfl⟩)
    (fun os started H enc _ => lifted os started H enc)

theorem proved : Rows.ShakeAnswersSaid := over
end Go.Proofs.Ytmdkfhmmhiofbaa.shakeAnswersDone

