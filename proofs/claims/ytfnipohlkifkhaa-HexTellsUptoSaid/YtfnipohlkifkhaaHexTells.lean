/- cattlecreeplaw.HexTells returns true for every input, under no condition. -/
import Derived.Test.YtfnipohlkifkhaaRows
import Derived.Test.YtfnipohlkifkhaaHl
import Derived.WalkKit
import Derived.ProofKit
import Derived.OpenShut
import Derived.ShutString
import Derived.ChangeOld
import Derived.Below
import Derived.Lib.SmallJoins
import Derived.Deep.CondSized
import Derived.Deep.Slices
namespace Go.Proofs.Ytfnipohlkifkhaa.hexTellsDone
open Go.ChangeShapes Go.WideShapes Go.ChangeAt Go.RowKit Go.Joins
set_option linter.unusedVariables false

theorem own : ownKnob Try.prog.godebug = none := by kernel_rfl
theorem laidOut : laidOutB Try.prog = true := by kernel_rfl

theorem one_le {H : Type} (d : DataW H) : 1 ≤ Rows.uptoBulk d := by
  cases d with
  | lit l => cases l <;> simp [Rows.uptoBulk]
  | nil => simp [Rows.uptoBulk]
  | ptr d => simp [Rows.uptoBulk]
  | slice elems spare => simp [Rows.uptoBulk]
  | agg parts => simp [Rows.uptoBulk]
  | iface t d => simp [Rows.uptoBulk]
  | map entries => simp [Rows.uptoBulk]
  | held h => simp [Rows.uptoBulk]
theorem length_le {H : Type} (l : List (DataW H)) : l.length ≤ Rows.uptoBulkAll l := by
  induction l with
  | nil => simp [Rows.uptoBulkAll]
  | cons x r ih => have := one_le x; simp only [Rows.uptoBulkAll, List.length_cons]; omega
theorem slice_bulk {H : Type} {enc : TypeId × Value → H} {W : World} {t e : TypeId} {v : Value} {d : DataW H} {p : List MemPlace} {spare : Nat → Bool} {held : Bool} (hu : Try.prog.underlying t = some (.slice e)) (ht : DataW.Trod enc Try.prog W 0 spare held t v d p)
    {S : Nat → Prop} {m : Nat → Option Value} {ps : List PV} (hr : Rep S m W (argAV false ps) v) : ∀ n size cs, ps = [.sl n size cs] → n ≤ Rows.uptoBulk d := by
  rintro n size cs rfl
  obtain ⟨k, hk⟩ := ht
  simp only [argAV, cond_false, Rep, PRep] at hr
  obtain ⟨a, cap, vs, rfl, _⟩ := hr
  rcases Go.Deep.open_slice hu hk with ⟨h1, _⟩ | ⟨b, len, cap', m', n', D, Pl, h1, _, _, _, _, h2, _⟩
  · simp [Value.cells] at h1
    omega
  · simp [Value.cells] at h1
    have hd : d = .slice ((List.range len).map D) ((List.range (m' - len)).map fun j => D (len + j)) := congrArg Prod.fst h2
    have := length_le (H := H) ((List.range len).map D)
    rw [hd]
    simp only [Rows.uptoBulk]
    simp at this
    omega

set_option maxRecDepth 100000 in
theorem lifted (os : Os) (started : os.Started) (H : Type) (enc : TypeId × Value → H) (FF : Stop.Interp) :
    ReturnsInHanded {} Try.checked os 14 .any ((Rows.OpenSpec.upto Rows.hexTellsSpec).pre6 enc Try.prog Try.f14 Rows.hexTellsUptoRow.domain false) (((Rows.OpenSpec.upto Rows.hexTellsSpec).at FF).post enc Try.prog Try.f14 false true false false) := by
  refine returnsInHanded_of_cond_sized (C := Try.checked) (s := Rows.OpenSpec.upto Rows.hexTellsSpec) (k := Rows.uptoSmall) rfl own started (by kernel_rfl) Try.func14
    (OpenSpec.witness (enc := enc) (C := Try.checked) (s := Rows.OpenSpec.upto Rows.hexTellsSpec) (k := Rows.uptoSmall) rfl false ⟨#[], #[(.slice none 0 0), (.string ⟨#[]⟩)], []⟩ 8 (by kernel_rfl) (by kernel_rfl) (by kernel_rfl) (x := ([.nil, .lit (.string [])], [], [])) (by kernel_rfl) rfl (by kernel_rfl)) ?_
  intro W base args ds gs before hval0 hW hcnd hkk hz _
  have hval : ∀ (j : Nat) t v, Try.f14.params[j]? = some t → args[j]? = some v → Value.okWide Try.prog W .any base t v := hval0
  have hW' := hW
  obtain ⟨p, q, hA0, hV, rfl, hfz, hnd⟩ := hW
  have hA : DataW.TrodAll enc Try.prog W 0 (fun _ => true) true Try.f14.params.toList args.toList ds p := hA0
  rw [Try.params14] at hA hval
  obtain ⟨v0, vs0, d0, ds0, p0, q0, hargs, rfl, rfl, h0, r0⟩ := trodAll_cons hA
  obtain ⟨v1, vs1, d1, ds1, p1, q1, rfl, rfl, rfl, h1, r1⟩ := trodAll_cons r0
  obtain ⟨rfl, rfl, rfl⟩ := trodAll_nil r1
  obtain rfl : args = #[v0, v1] := by cases args; simp_all
  obtain ⟨rfl, rfl⟩ := trodVars_none hV
  have k0 := h0
  have lt0 : ∀ x ∈ p0, x.block < W.heap.size := by obtain ⟨m, hm⟩ := k0; exact DataW.trod_lt m _ _ _ hm
  obtain ⟨x0, ty0, re0⟩ := arg_rep (d := 10) Try.underlying42 (by kernel_rfl) (hval 0 42 v0 rfl rfl) h0 (fun z hz' => of_decide_eq_true (List.all_eq_true.1 hz z (DataW.weights_mem_each (j := 0) (t := 42) rfl rfl z hz')))
  have k1 := h1
  have lt1 : ∀ x ∈ p1, x.block < W.heap.size := by obtain ⟨m, hm⟩ := k1; exact DataW.trod_lt m _ _ _ hm
  obtain ⟨x1, ty1, re1⟩ := arg_rep (d := 10) Try.underlying9 (by kernel_rfl) (hval 1 9 v1 rfl rfl) h1 (fun z hz' => of_decide_eq_true (List.all_eq_true.1 hz z (DataW.weights_mem_each (j := 1) (t := 9) rfl rfl z hz')))
  have hbulk : Rows.uptoBulkAll ([d0, d1] ++ []) ≤ 1048576 := of_decide_eq_true hkk
  simp only [List.append_nil, Rows.uptoBulkAll] at hbulk
  have hb0 : ∀ n size cs, x0 = [.sl n size cs] → n ≤ 1048576 := fun n size cs e => by have := slice_bulk Try.underlying42 h0 re0 n size cs e; omega
  clear hA0 hval0
  have hC := law_HexTells x0 ty0 hb0 x1 ty1 W (fun b => b < W.heap.size) [v0, v1] (fun _ h => h) (by simp only [RepL]; exact ⟨_, _, rfl, re0, _, _, rfl, re1, rfl⟩)
  refine hC.mono fun e W' ⟨v, he, S', m', hr, hm⟩ => ?_
  have hv := rep_v hr
  subst hv
  subst he
  have bel := hm.bel
  exact ⟨_, rfl, _, _, _, [], _, [], hW', trodAll_mk1 (shut_bool Try.underlying4 _), (trodAll_cons_mk (Below.trod laidOut (by kernel_rfl) (of_decide_eq_true (by kernel_rfl)) k0 bel lt0) (trodAll_cons_mk (Below.trod laidOut (by kernel_rfl) (of_decide_eq_true (by kernel_rfl)) k1 bel lt1) trodAll_mk0)), rfl, bel.frame _, fun h => by cases h⟩

theorem proved : Rows.HexTellsUptoSaid :=
  OpenClaim.holds_of_cond 14 Try.f14 rfl rfl rfl rfl rfl rfl rfl ⟨rfl, rfl, rfl, rfl, rfl⟩ rfl rfl rfl rfl rfl (by kernel_rfl) Try.func14 (by kernel_rfl)
    (of_decide_eq_true (by kernel_rfl)) (by unfold Func.isWrapper; rw [if_neg (of_decide_eq_false (by kernel_rfl))]; exact ⟨rfl, rfl⟩)
    (fun os started H enc _ F => lifted os started H enc F)
end Go.Proofs.Ytfnipohlkifkhaa.hexTellsDone

