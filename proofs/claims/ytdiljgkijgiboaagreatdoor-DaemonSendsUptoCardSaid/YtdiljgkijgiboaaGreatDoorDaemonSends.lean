/- cattlecreeplaw.DaemonSends returns true for every input of bulk at most 1048576; what the listed package variables hold is tied to the program's text. -/
import Derived.Test.YtdiljgkijgiboaaGreatDoorCards
import Derived.Test.YtdiljgkijgiboaaGreatDoorTie
import Derived.Test.YtdiljgkijgiboaaGreatDoorSSn5
import Derived.ProofKit
import Derived.ShutString
import Derived.ChangeOld
import Derived.Below
import Derived.Lay
import Derived.MakeChecks
import Derived.Lib.SmallJoins
import Derived.Deep.DeepHandedRow
namespace Go.Proofs.YtdiljgkijgiboaaGreatDoor.daemonSendsDone
open Go.ChangeShapes Go.WideShapes Go.ChangeAt Go.RowKit Go.Joins
set_option linter.unusedVariables false

theorem own : ownKnob Tryz.prog.godebug = none := by kernel_rfl
theorem laidOut : laidOutB Tryz.prog = true := by kernel_rfl

/-- a world in which the listed variables lie as their initialisers lay them -/
noncomputable def laidWorld (os : Os) : World := World.laidAll Tryz.prog os Rows.daemonSendsUptoRow.laid
theorem laid_met (os : Os) : laidMet Tryz.prog Rows.daemonSendsUptoRow.laid ((laidWorld os).forCall (fun _ _ => 0) ⟨#[], #[(.agg (List.toArray ((.string ⟨#[]⟩) :: (.int .i64 0) :: (.slice none 0 0) :: (.slice none 0 0) :: (.slice none 0 0) :: (.bool false) :: (.slice none 0 0) :: (.string ⟨#[]⟩) :: (.int .i64 0) :: (.slice none 0 0) :: (.string ⟨#[]⟩) :: (.int .i64 0) :: (.int .i64 0) :: (.int .i64 0) :: (.int .i64 0) :: []))), (.agg #[(.int .u32 0), (.int .u32 0), (.slice none 0 0)])], []⟩).memory :=
  laidMet_laidAll _ (by kernel_rfl) (by kernel_rfl)
theorem reads (os : Os) {H : Type} (enc : TypeId × Value → H) : ∃ places, DataW.whole enc Tryz.prog ((laidWorld os).forCall (fun _ _ => 0) ⟨#[], #[(.agg (List.toArray ((.string ⟨#[]⟩) :: (.int .i64 0) :: (.slice none 0 0) :: (.slice none 0 0) :: (.slice none 0 0) :: (.bool false) :: (.slice none 0 0) :: (.string ⟨#[]⟩) :: (.int .i64 0) :: (.slice none 0 0) :: (.string ⟨#[]⟩) :: (.int .i64 0) :: (.int .i64 0) :: (.int .i64 0) :: (.int .i64 0) :: []))), (.agg #[(.int .u32 0), (.int .u32 0), (.slice none 0 0)])], []⟩).memory Tryz.f3.params.toList Rows.daemonSendsSpec.vars false (#[(.agg (List.toArray ((.string ⟨#[]⟩) :: (.int .i64 0) :: (.slice none 0 0) :: (.slice none 0 0) :: (.slice none 0 0) :: (.bool false) :: (.slice none 0 0) :: (.string ⟨#[]⟩) :: (.int .i64 0) :: (.slice none 0 0) :: (.string ⟨#[]⟩) :: (.int .i64 0) :: (.int .i64 0) :: (.int .i64 0) :: (.int .i64 0) :: []))), (.agg #[(.int .u32 0), (.int .u32 0), (.slice none 0 0)])] : Array Value).toList 8 = some ([.agg [.agg [.lit (.string []), .lit (.int .i64 0), .nil], .nil, .nil, .agg [.lit (.bool false), .nil, .agg [.lit (.string []), .lit (.int .i64 0), .nil], .lit (.string []), .lit (.int .i64 0)], .lit (.int .i64 0), .lit (.int .i64 0), .lit (.int .i64 0)], .agg [.lit (.int .u32 0), .lit (.int .u32 0), .nil]], [], places) :=
  ⟨[], by kernel_rfl⟩
theorem gi {W : World} (hL : laidMet Tryz.prog Rows.daemonSendsUptoRow.laid W) : GI W := by
  refine ⟨fun g hg => ?_, fun p hp => ?_⟩
  · simp only [gErr, List.mem_cons, List.not_mem_nil, or_false] at hg
    rcases hg with rfl | rfl
    · exact err_reads (t := 200) (by kernel_rfl) (by kernel_rfl) Tryz.underlying200 (Lib.laidMet.reads hL (n := "strconv.ErrSyntax") (List.mem_of_getElem? (i := 5) (by rfl)))
    · exact err_reads (t := 200) (by kernel_rfl) (by kernel_rfl) Tryz.underlying200 (Lib.laidMet.reads hL (n := "strconv.ErrRange") (List.mem_of_getElem? (i := 4) (by rfl)))
  · simp only [gTab, List.mem_cons, List.not_mem_nil, or_false] at hp
    subst hp
    exact tab_reads (by kernel_rfl) (by kernel_rfl) Tryz.underlying284 Tryz.underlying55 (by kernel_rfl) (by kernel_rfl) (Lib.laidMet.reads hL (n := "internal/strconv.uint64pow10") (List.mem_of_getElem? (i := 2) (by kernel_rfl)))

theorem mem_bulk {H : Type} {l : List (DataW H)} {x : DataW H} (h : x ∈ l) : Rows.uptoBulk x ≤ Rows.uptoBulkAll l := by
  induction l with
  | nil => cases h
  | cons y r ih =>
    simp only [Rows.uptoBulkAll]
    rcases List.mem_cons.1 h with rfl | h
    · omega
    · have := ih h; omega
theorem one_bulk {H : Type} (d : DataW H) : 1 ≤ Rows.uptoBulk d := by
  cases d with
  | lit l => cases l <;> simp [Rows.uptoBulk]
  | nil => simp [Rows.uptoBulk]
  | ptr d => simp [Rows.uptoBulk]
  | slice elems spare => simp [Rows.uptoBulk]
  | agg parts => simp [Rows.uptoBulk]
  | iface t d => simp [Rows.uptoBulk]
  | map entries => simp [Rows.uptoBulk]
  | held h => simp [Rows.uptoBulk]
theorem len_bulk {H : Type} (l : List (DataW H)) : l.length ≤ Rows.uptoBulkAll l := by
  induction l with
  | nil => simp [Rows.uptoBulkAll]
  | cons x r ih => have := one_bulk x; simp only [Rows.uptoBulkAll, List.length_cons]; omega
theorem meas {H : Type} : Meas (Rows.uptoBulk (H := H)) where
  str l := by simp [Rows.uptoBulk]
  len l r := by have := len_bulk l; simp only [Rows.uptoBulk]; omega
  el l r x hx := by have := mem_bulk hx; simp only [Rows.uptoBulk]; omega
  part l x hx := by have := mem_bulk hx; simp only [Rows.uptoBulk]; omega

set_option maxRecDepth 100000 in
theorem contract (H : Type) (enc : TypeId × Value → H) (W : World) (base : Nat) (args : Array Value) (ds gs : List (DataW H)) (before : List MemPlace)
    (hval0 : ∀ (j : Nat) t v, Tryz.f3.params[j]? = some t → args[j]? = some v → Value.okWide Tryz.prog W .any base t v)
    (hW : DataW.Whole enc Tryz.prog Tryz.f3.params.toList Rows.daemonSendsSpec.vars false W args.toList ds gs before)
    (hz : (DataW.weightsEach Tryz.prog (Tryz.f3.params.toList ++ (OpenSpec.ofChange Rows.daemonSendsSpec).bare.plain.varTypes Tryz.prog) (ds ++ gs)).all (· ≤ reachBytes) = true) (hL : laidMetH Tryz.prog Rows.daemonSendsUptoRow.laid W)
    (hkk : Rows.uptoSmall H (ds ++ gs) = true) :
    Calls Tryz.prog 3 args W fun e W' => ∃ v, e = .returned v ∧ Rows.daemonSendsSpec.post enc Tryz.prog Tryz.f3 false true false false W args v W' := by
  have hval : ∀ (j : Nat) t v, Tryz.f3.params[j]? = some t → args[j]? = some v → Value.okWide Tryz.prog W .any base t v := hval0
  have hW' := hW
  obtain ⟨p, q, hA0, hV, rfl, hfz, hnd⟩ := hW
  have hA : DataW.TrodAll enc Tryz.prog W 0 (fun _ => true) true Tryz.f3.params.toList args.toList ds p := hA0
  rw [Tryz.params3] at hA hval
  obtain ⟨v0, vs0, d0, ds0, p0, q0, hargs, rfl, rfl, h0, r0⟩ := trodAll_cons hA
  obtain ⟨v1, vs1, d1, ds1, p1, q1, rfl, rfl, rfl, h1, r1⟩ := trodAll_cons r0
  obtain ⟨rfl, rfl, rfl⟩ := trodAll_nil r1
  obtain rfl : args = #[v0, v1] := by cases args; simp_all
  obtain ⟨rfl, rfl⟩ := trodVars_none hV
  have k0 := h0
  have lt0 : ∀ x ∈ p0, x.block < W.heap.size := by obtain ⟨m, hm⟩ := k0; exact DataW.trod_lt m _ _ _ hm
  obtain ⟨x0, ty0, bd0, re0⟩ := arg_repB (d := 10) Tryz.underlying32 (by kernel_rfl) (hval 0 32 v0 rfl rfl) h0 (fun z hz' => of_decide_eq_true (List.all_eq_true.1 hz z (DataW.weights_mem_each (j := 0) (t := 32) rfl rfl z hz')))
  have k1 := h1
  have lt1 : ∀ x ∈ p1, x.block < W.heap.size := by obtain ⟨m, hm⟩ := k1; exact DataW.trod_lt m _ _ _ hm
  obtain ⟨x1, ty1, bd1, re1⟩ := arg_repB (d := 10) Tryz.underlying36 (by kernel_rfl) (hval 1 36 v1 rfl rfl) h1 (fun z hz' => of_decide_eq_true (List.all_eq_true.1 hz z (DataW.weights_mem_each (j := 1) (t := 36) rfl rfl z hz')))
  have hbulk : Rows.uptoBulkAll ([d0, d1] ++ []) ≤ 1048576 := of_decide_eq_true hkk
  simp only [List.append_nil, Rows.uptoBulkAll] at hbulk
  have hb0 : PV.bdL 1048576 x0 := zdR (by omega) _ (bd0 _ meas)
  have hb1 : PV.bdL 1048576 x1 := zdR (by omega) _ (bd1 _ meas)
  clear hA0 hval0
  have hC := law_DaemonSends x0 ty0 hb0 x1 ty1 hb1 W (fun b => b < W.heap.size) [v0, v1] (fun _ h => h) (gi (by rw [← MakeChecks.laidMetH_plain _ _ _ (by kernel_rfl)]; exact hL)) (by simp only [RepL]; exact ⟨_, _, rfl, re0, _, _, rfl, re1, rfl⟩)
  refine hC.mono fun e W' ⟨v, he, S', m', hr, hm⟩ => ?_
  have hv := zbb hr
  subst hv
  subst he
  have bel := hm.bel
  exact ⟨_, rfl, _, _, _, [], _, [], hW', trodAll_mk1 (shut_bool Tryz.underlying4 _), (trodAll_cons_mk (Below.trod laidOut (by kernel_rfl) (of_decide_eq_true (by kernel_rfl)) k0 bel lt0) (trodAll_cons_mk (Below.trod laidOut (by kernel_rfl) (of_decide_eq_true (by kernel_rfl)) k1 bel lt1) trodAll_mk0)), rfl, bel.frame _, fun h => by cases h⟩

set_option maxRecDepth 100000 in
theorem lifted (os : Os) (started : os.Started) (H : Type) (enc : TypeId × Value → H) (FF : Stop.Interp) :
    ReturnsInHanded {} Tryz.checked os 3 .any ((Rows.OpenSpec.upto Rows.daemonSendsSpec).preRow enc Tryz.prog Tryz.f3 Rows.daemonSendsUptoRow.domain false Rows.daemonSendsUptoRow.laid) (((Rows.OpenSpec.upto Rows.daemonSendsSpec).at FF).post enc Tryz.prog Tryz.f3 false true false false) := by
  obtain ⟨places, hx⟩ := reads os enc
  refine returnsInHanded_of_row (C := Tryz.checked) (s := Rows.OpenSpec.upto Rows.daemonSendsSpec) own started (by kernel_rfl) Tryz.func3
    (witness_row_at (enc := enc) (C := Tryz.checked) false (laidWorld os) #[(.agg (List.toArray ((.string ⟨#[]⟩) :: (.int .i64 0) :: (.slice none 0 0) :: (.slice none 0 0) :: (.slice none 0 0) :: (.bool false) :: (.slice none 0 0) :: (.string ⟨#[]⟩) :: (.int .i64 0) :: (.slice none 0 0) :: (.string ⟨#[]⟩) :: (.int .i64 0) :: (.int .i64 0) :: (.int .i64 0) :: (.int .i64 0) :: []))), (.agg #[(.int .u32 0), (.int .u32 0), (.slice none 0 0)])] (World.laidAll_os _ _ _) (by kernel_rfl) (by kernel_rfl) (by kernel_rfl)
      (OpenSpec.preRow_of_cond 8 hx (by kernel_rfl) (fun k hk => by cases hk; kernel_rfl) (by kernel_rfl) (laid_met os))) ?_
  intro W base args ds gs before hval hW _ hkk hz hL _ _
  exact contract H enc W base args ds gs before hval hW hz hL (hkk _ rfl)
theorem inPlace : (Rows.daemonSendsUptoRow.inPlace == Tryz.pinned.checked.prog.inPlace 3) = true := by kernel_rfl
theorem unfol : (Rows.daemonSendsUptoRow.unfollowed == Tryz.pinned.checked.prog.unfollowed 3) = true := by kernel_rfl
theorem recur : (Rows.daemonSendsUptoRow.recurses == Tryz.pinned.checked.prog.recurses 3) = true := by kernel_rfl
theorem namedV : (Rows.daemonSendsUptoRow.named == Tryz.pinned.checked.prog.varsNamed 3) = true := by kernel_rfl
theorem closed : joinedFacts Tryz.pinned.checked.prog 3 Tryz.f3 (OpenSpec.ofChange Rows.daemonSendsSpec).bare Rows.daemonSendsUptoRow = true := by
  unfold joinedFacts
  simp only [Bool.and_eq_true]
  exact ⟨⟨⟨⟨⟨⟨⟨⟨⟨⟨⟨⟨⟨⟨⟨⟨⟨⟨⟨⟨⟨⟨⟨⟨⟨⟨⟨⟨⟨⟨⟨by kernel_rfl, by kernel_rfl⟩, by kernel_rfl⟩, by kernel_rfl⟩, by kernel_rfl⟩, by kernel_rfl⟩, by kernel_rfl⟩, by kernel_rfl⟩, by kernel_rfl⟩, inPlace⟩, unfol⟩, recur⟩, namedV⟩, by kernel_rfl⟩, by kernel_rfl⟩, by kernel_rfl⟩, by kernel_rfl⟩, by kernel_rfl⟩, by kernel_rfl⟩, by kernel_rfl⟩, by kernel_rfl⟩, by kernel_rfl⟩, by kernel_rfl⟩, by kernel_rfl⟩, by kernel_rfl⟩, by kernel_rfl⟩, by kernel_rfl⟩, by kernel_rfl⟩, by kernel_rfl⟩, by kernel_rfl⟩, by kernel_rfl⟩, by kernel_rfl⟩
theorem said : Rows.DaemonSendsUptoSaid :=
  OpenClaim.holds_of_cond 3 Tryz.f3 rfl rfl rfl rfl rfl rfl rfl ⟨rfl, rfl, rfl, rfl, rfl⟩ rfl rfl rfl rfl rfl (by kernel_rfl) Tryz.func3 closed
    (of_decide_eq_true (by kernel_rfl)) (by unfold Func.isWrapper; rw [if_neg (of_decide_eq_false (by kernel_rfl))]; exact ⟨rfl, rfl⟩)
    (fun os started H enc _ F => by rw [OpenClaim.pre_eq_preRow]; exact lifted os started H enc F)
/-- no parameter wants a stand-in; the program's own looks are off -/
theorem plain (f : FuncId) (fn : Func) (hf : Tryz.pinned.checked.prog.funcNamed "cattlecreep/cattlecreeplaw.DaemonSends" = some f) (hfn : Tryz.pinned.checked.prog.funcs[f]? = some fn) :
    true = Tryz.pinned.checked.prog.looks [] ∧ ∀ (j : Nat) t, fn.params[j]? = some t → Tryz.pinned.checked.prog.wantsStandIn t = false := by
  obtain rfl : f = 3 := Option.some.inj ((show Tryz.prog.funcNamed "cattlecreep/cattlecreeplaw.DaemonSends" = some 3 by kernel_rfl).symm.trans hf) |>.symm
  obtain rfl : fn = Tryz.f3 := (Option.some.inj (Tryz.func3.symm.trans hfn)).symm
  refine ⟨by kernel_rfl, fun j t ht => ?_⟩
  rw [Tryz.params3] at ht
  have hm : t ∈ [32, 36] := by simpa using Array.mem_of_getElem? ht
  have hall : ([32, 36].all fun u => !Tryz.prog.wantsStandIn u) = true := by kernel_rfl
  exact (show Tryz.prog.wantsStandIn t = false by simpa using List.all_eq_true.1 hall t hm)
theorem proved : Rows.DaemonSendsUptoCardSaid :=
  Claim7.holds_tied_plain_at .later [] _ _ _ _ said (fun _ h => by cases h) (by kernel_rfl) (fun _ h => by cases h) daemonSendsUpto_row_tie rfl ⟨rfl, rfl⟩ (by kernel_rfl) rfl plain (by kernel_rfl)
end Go.Proofs.YtdiljgkijgiboaaGreatDoor.daemonSendsDone

