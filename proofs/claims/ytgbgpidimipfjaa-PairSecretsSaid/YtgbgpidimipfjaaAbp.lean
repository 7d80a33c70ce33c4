/- The machine over data: the operations one by one. -/
import Derived.Test.YtgbgpidimipfjaaAbo
namespace Go.Proofs.Ytgbgpidimipfjaa
open Go.RowKit Go.Sort
set_option linter.unusedVariables false

section
variable {P : Program} {d : Option Tmp} {ty : TypeId} {pos : String} {af : Array Edge} {g : Option (Nat × Bool)}
theorem a_move {x : Operand} {r : AV} : AOp P ⟨d, .move x, ty, pos, af, g⟩ [r] [] [] r :=
  aop_pure fun S m w ev h => ⟨ev x, rfl, repL1 h⟩
theorem a_assign {x : Operand} {r : AV} : AOp P ⟨d, .assign x, ty, pos, af, g⟩ [r] [] [] r :=
  aop_pure fun S m w ev h => ⟨ev x, rfl, repL1 h⟩

/-! numbers -/
theorem guard_int (op : BinOp) (t : TypeId) (x y : Operand) (k k' : IntKind) (a b : Int) (w : World) : (eqGuard op t x y (.int k a) (.int k' b)).run P w = .ok () w := by
  unfold eqGuard
  cases op <;> rfl
theorem a_bin {op : BinOp} {xt yt : TypeId} {x y : Operand} {X Y R : Value} (hg : ∀ w, (eqGuard op xt x y X Y).run P w = .ok () w) (h : ∀ w, (binOp op xt X Y).run P w = .ok R w) (h1 : R.oneCell' = true) :
    AOp P ⟨d, .binOp op xt x y yt, ty, pos, af, g⟩ [.p (.v X), .p (.v Y)] [] [] (.p (.v R)) :=
  aop_pure fun S m w ev hr => by
    have hr' : RepL S m w [.p (.v X), .p (.v Y)] [ev x, ev y] := hr
    obtain ⟨h2, h3⟩ := repL2 hr'
    refine ⟨R, ?_, rep_mk h1⟩
    simp only [execOp, rep_v h2, rep_v h3, Sem.run_bind, hg w, Result.andThen_ok, h w, Sem.run_pure]
section
variable {xt yt : TypeId} {x y : Operand} {k : IntKind} {a b c : Int}
theorem a_add (h : k.wrap (a + b) = c) : AOp P ⟨d, .binOp .add xt x y yt, ty, pos, af, g⟩ [.p (.v (.int k a)), .p (.v (.int k b))] [] [] (.p (.v (.int k c))) :=
  a_bin (guard_int _ _ _ _ _ _ _ _) (fun w => by subst h; simp [binOp, Op.intArith]) rfl
theorem a_sub (h : k.wrap (a - b) = c) : AOp P ⟨d, .binOp .sub xt x y yt, ty, pos, af, g⟩ [.p (.v (.int k a)), .p (.v (.int k b))] [] [] (.p (.v (.int k c))) :=
  a_bin (guard_int _ _ _ _ _ _ _ _) (fun w => by subst h; simp [binOp, Op.intArith]) rfl
theorem a_mul (h : k.wrap (a * b) = c) : AOp P ⟨d, .binOp .mul xt x y yt, ty, pos, af, g⟩ [.p (.v (.int k a)), .p (.v (.int k b))] [] [] (.p (.v (.int k c))) :=
  a_bin (guard_int _ _ _ _ _ _ _ _) (fun w => by subst h; simp [binOp, Op.intArith]) rfl
theorem a_quo (h0 : b ≠ 0) (h : k.wrap (a.tdiv b) = c) : AOp P ⟨d, .binOp .quo xt x y yt, ty, pos, af, g⟩ [.p (.v (.int k a)), .p (.v (.int k b))] [] [] (.p (.v (.int k c))) :=
  a_bin (guard_int _ _ _ _ _ _ _ _) (fun w => by subst h; simp [binOp, Op.intDiv, h0]) rfl
theorem a_rem (h0 : b ≠ 0) (h : a.tmod b = c) : AOp P ⟨d, .binOp .rem xt x y yt, ty, pos, af, g⟩ [.p (.v (.int k a)), .p (.v (.int k b))] [] [] (.p (.v (.int k c))) :=
  a_bin (guard_int _ _ _ _ _ _ _ _) (fun w => by subst h; simp [binOp, Op.intDiv, h0]) rfl
theorem a_bits {op : BinOp} (hop : op = .and ∨ op = .or ∨ op = .xor ∨ op = .andNot) (h : bits op k a b = c) : AOp P ⟨d, .binOp op xt x y yt, ty, pos, af, g⟩ [.p (.v (.int k a)), .p (.v (.int k b))] [] [] (.p (.v (.int k c))) :=
  a_bin (guard_int _ _ _ _ _ _ _ _) (fun w => by subst h; rcases hop with rfl | rfl | rfl | rfl <;> simp [binOp, Op.intBits, bits]) rfl
theorem a_shl {k' : IntKind} (h0 : 0 ≤ b) (h : k.wrap (a * 2 ^ min b.toNat k.bits) = c) : AOp P ⟨d, .binOp .shl xt x y yt, ty, pos, af, g⟩ [.p (.v (.int k a)), .p (.v (.int k' b))] [] [] (.p (.v (.int k c))) :=
  a_bin (guard_int _ _ _ _ _ _ _ _) (fun w => by subst h; simp [binOp, Op.shift, show ¬ b < 0 by omega]) rfl
theorem a_shr {k' : IntKind} (h0 : 0 ≤ b) (h : a.fdiv (2 ^ min b.toNat k.bits) = c) : AOp P ⟨d, .binOp .shr xt x y yt, ty, pos, af, g⟩ [.p (.v (.int k a)), .p (.v (.int k' b))] [] [] (.p (.v (.int k c))) :=
  a_bin (guard_int _ _ _ _ _ _ _ _) (fun w => by subst h; simp [binOp, Op.shift, show ¬ b < 0 by omega]) rfl
theorem a_eql : AOp P ⟨d, .binOp .eql xt x y yt, ty, pos, af, g⟩ [.p (.v (.int k a)), .p (.v (.int k b))] [] [] (.p (.v (.bool (a == b)))) :=
  a_bin (guard_int _ _ _ _ _ _ _ _) (fun w => by simp [binOp, Op.intCmp]) rfl
theorem a_neq : AOp P ⟨d, .binOp .neq xt x y yt, ty, pos, af, g⟩ [.p (.v (.int k a)), .p (.v (.int k b))] [] [] (.p (.v (.bool (a != b)))) :=
  a_bin (guard_int _ _ _ _ _ _ _ _) (fun w => by simp [binOp, Op.intCmp]) rfl
theorem a_lss : AOp P ⟨d, .binOp .lss xt x y yt, ty, pos, af, g⟩ [.p (.v (.int k a)), .p (.v (.int k b))] [] [] (.p (.v (.bool (decide (a < b))))) :=
  a_bin (guard_int _ _ _ _ _ _ _ _) (fun w => by simp [binOp, Op.intCmp]) rfl
theorem a_leq : AOp P ⟨d, .binOp .leq xt x y yt, ty, pos, af, g⟩ [.p (.v (.int k a)), .p (.v (.int k b))] [] [] (.p (.v (.bool (decide (a ≤ b))))) :=
  a_bin (guard_int _ _ _ _ _ _ _ _) (fun w => by simp [binOp, Op.intCmp]) rfl
theorem a_gtr : AOp P ⟨d, .binOp .gtr xt x y yt, ty, pos, af, g⟩ [.p (.v (.int k a)), .p (.v (.int k b))] [] [] (.p (.v (.bool (decide (b < a))))) :=
  a_bin (guard_int _ _ _ _ _ _ _ _) (fun w => by simp [binOp, Op.intCmp]) rfl
theorem a_geq : AOp P ⟨d, .binOp .geq xt x y yt, ty, pos, af, g⟩ [.p (.v (.int k a)), .p (.v (.int k b))] [] [] (.p (.v (.bool (decide (b ≤ a))))) :=
  a_bin (guard_int _ _ _ _ _ _ _ _) (fun w => by simp [binOp, Op.intCmp]) rfl
/-! strings -/
theorem guard_str (op : BinOp) (t : TypeId) (x y : Operand) (a b : ByteArray) (w : World) : (eqGuard op t x y (.string a) (.string b)).run P w = .ok () w := by
  unfold eqGuard
  cases op <;> rfl
theorem guard_bool (op : BinOp) (t : TypeId) (x y : Operand) (a b : Bool) (w : World) : (eqGuard op t x y (.bool a) (.bool b)).run P w = .ok () w := by
  unfold eqGuard
  cases op <;> rfl
theorem str_beq (s t : ByteArray) : (s.toList == t.toList) = decide (s = t) := by
  rw [ByteArray.toList_eq, ByteArray.toList_eq, Bool.eq_iff_iff]
  simp only [beq_iff_eq, decide_eq_true_eq]
  refine ⟨fun e => ?_, fun e => by rw [e]⟩
  cases s; cases t
  simp only [ByteArray.mk.injEq]
  exact Array.toList_inj.1 e
theorem a_seql {s t : ByteArray} : AOp P ⟨d, .binOp .eql xt x y yt, ty, pos, af, g⟩ [.p (.v (.string s)), .p (.v (.string t))] [] [] (.p (.v (.bool (decide (s = t))))) :=
  a_bin (guard_str _ _ _ _ _ _) (fun w => by simp only [binOp, Op.stringOp, str_beq, Sem.run_pure]) rfl
theorem a_sneq {s t : ByteArray} : AOp P ⟨d, .binOp .neq xt x y yt, ty, pos, af, g⟩ [.p (.v (.string s)), .p (.v (.string t))] [] [] (.p (.v (.bool (!decide (s = t))))) :=
  a_bin (guard_str _ _ _ _ _ _) (fun w => by simp only [binOp, Op.stringOp, str_beq, Sem.run_pure]) rfl
def sLt (s t : ByteArray) : Bool := Op.bytesLess s.toList t.toList
theorem a_slss {s t : ByteArray} : AOp P ⟨d, .binOp .lss xt x y yt, ty, pos, af, g⟩ [.p (.v (.string s)), .p (.v (.string t))] [] [] (.p (.v (.bool (sLt s t)))) :=
  a_bin (guard_str _ _ _ _ _ _) (fun w => by simp [binOp, Op.stringOp, sLt]) rfl
theorem a_sleq {s t : ByteArray} : AOp P ⟨d, .binOp .leq xt x y yt, ty, pos, af, g⟩ [.p (.v (.string s)), .p (.v (.string t))] [] [] (.p (.v (.bool (sLt s t || decide (s = t))))) :=
  a_bin (guard_str _ _ _ _ _ _) (fun w => by simp only [binOp, Op.stringOp, sLt, str_beq, Sem.run_pure]) rfl
theorem a_sgtr {s t : ByteArray} : AOp P ⟨d, .binOp .gtr xt x y yt, ty, pos, af, g⟩ [.p (.v (.string s)), .p (.v (.string t))] [] [] (.p (.v (.bool (!(sLt s t || decide (s = t)))))) :=
  a_bin (guard_str _ _ _ _ _ _) (fun w => by simp only [binOp, Op.stringOp, sLt, str_beq, Sem.run_pure]) rfl
theorem a_sgeq {s t : ByteArray} : AOp P ⟨d, .binOp .geq xt x y yt, ty, pos, af, g⟩ [.p (.v (.string s)), .p (.v (.string t))] [] [] (.p (.v (.bool (!sLt s t)))) :=
  a_bin (guard_str _ _ _ _ _ _) (fun w => by simp [binOp, Op.stringOp, sLt]) rfl
theorem a_cat {s t u : ByteArray} (h0 : s.size + t.size ≤ 9223372036854775807) (h : s ++ t = u) : AOp P ⟨d, .binOp .add xt x y yt, ty, pos, af, g⟩ [.p (.v (.string s)), .p (.v (.string t))] [] [] (.p (.v (.string u))) :=
  a_bin (guard_str _ _ _ _ _ _) (fun w => by
    subst h
    have : ¬ (((s.size + t.size : Nat) : Int) > IntKind.i64.max) := by simp [IntKind.max, IntKind.signed, IntKind.bits]; omega
    simp only [binOp, Op.stringOp, if_neg this, Sem.run_pure]) rfl
theorem a_beql {s t : Bool} (hu : P.underlying xt = some .bool) : AOp P ⟨d, .binOp .eql xt x y yt, ty, pos, af, g⟩ [.p (.v (.bool s)), .p (.v (.bool t))] [] [] (.p (.v (.bool (s == t)))) :=
  a_bin (guard_bool _ _ _ _ _ _) (fun w => run_eql_bool w xt s t hu) rfl
theorem a_bneq {s t : Bool} (hu : P.underlying xt = some .bool) : AOp P ⟨d, .binOp .neq xt x y yt, ty, pos, af, g⟩ [.p (.v (.bool s)), .p (.v (.bool t))] [] [] (.p (.v (.bool (s != t)))) :=
  a_bin (guard_bool _ _ _ _ _ _) (fun w => by simp only [binOp, Sem.run_bind, run_equal_bool w xt s t hu, Result.andThen_ok, Sem.run_pure]; rfl) rfl
end
/-! one operand -/
theorem a_not {x : Operand} {xt : TypeId} {b : Bool} : AOp P ⟨d, .unOp .not xt x, ty, pos, af, g⟩ [.p (.v (.bool b))] [] [] (.p (.v (.bool (!b)))) :=
  aop_pure fun S m w ev hr => by
    have h := rep_v (repL1 (x := .p (.v (.bool b))) (u := ev x) hr)
    exact ⟨.bool !b, by simp [execOp, h, Op.unary], rep_mk rfl⟩
theorem a_inv {x : Operand} {xt : TypeId} {k : IntKind} {a c : Int} (h : bits .xor k (if k.signed then -1 else k.max) a = c) : AOp P ⟨d, .unOp .xor xt x, ty, pos, af, g⟩ [.p (.v (.int k a))] [] [] (.p (.v (.int k c))) :=
  aop_pure fun S m w ev hr => by
    have h1 := rep_v (repL1 (x := .p (.v (.int k a))) (u := ev x) hr)
    exact ⟨.int k c, by subst h; simp [execOp, h1, Op.unary, Op.intBits, bits], rep_mk rfl⟩
theorem a_neg {x : Operand} {xt : TypeId} {k : IntKind} {a c : Int} (h : k.wrap (0 - a) = c) : AOp P ⟨d, .unOp .neg xt x, ty, pos, af, g⟩ [.p (.v (.int k a))] [] [] (.p (.v (.int k c))) :=
  aop_pure fun S m w ev hr => by
    have h1 := rep_v (repL1 (x := .p (.v (.int k a))) (u := ev x) hr)
    exact ⟨.int k c, by subst h; simp [execOp, h1, Op.unary, Op.intArith], rep_mk rfl⟩
theorem a_conv {x : Operand} {src dst : TypeId} {k k' : IntKind} {a c : Int} {ds : TypeDesc} (hs : P.underlying src = some ds) (hd : P.underlying dst = some (.int k')) (h : k'.wrap a = c) :
    AOp P ⟨d, .convert src dst x, ty, pos, af, g⟩ [.p (.v (.int k a))] [] [] (.p (.v (.int k' c))) :=
  aop_pure fun S m w ev hr => by
    have h1 := rep_v (repL1 (x := .p (.v (.int k a))) (u := ev x) hr)
    exact ⟨.int k' c, by subst h; simp [execOp, h1, convert, run_underlying hs, run_underlying hd, Conv.intToInt], rep_mk rfl⟩
/-! choices -/
theorem a_pick {c a b : Operand} {t : Bool} {X Y : Value} (h1 : X.oneCell' = true) (h2 : Y.oneCell' = true) : AOp P ⟨d, .pick c a b, ty, pos, af, g⟩ [.p (.v (.bool t)), .p (.v X), .p (.v Y)] [] [] (.p (.v (bif t then X else Y))) :=
  aop_pure fun S m w ev hr => by
    obtain ⟨k1, k2, k3⟩ := repL3 (u := ev c) (v := ev a) (t := ev b) hr
    refine ⟨_, ?_, rep_mk (by cases t <;> assumption)⟩
    cases t <;> simp [execOp, rep_v k1, rep_v k2, rep_v k3, asBool]
theorem a_and {c a b : Operand} {t t' y : Bool} (ht : t = true → t' = true) : AOp P ⟨d, .pick c a b, ty, pos, af, g⟩ [.p (.v (.bool t)), .mb t' (.p (.v (.bool y))), .p (.v (.bool false))] [] [] (.p (.v (.bool (t && y)))) :=
  aop_pure fun S m w ev hr => by
    obtain ⟨k1, k2, k3⟩ := repL3 (u := ev c) (v := ev a) (t := ev b) hr
    refine ⟨_, ?_, rep_mk rfl⟩
    cases t with
    | false => simp [execOp, rep_v k1, rep_v k3, asBool]
    | true =>
      simp only [Rep] at k2
      have := k2 (ht rfl)
      simp only [PRep] at this
      simp [execOp, rep_v k1, this.1, asBool]
theorem a_or {c a b : Operand} {t t' y : Bool} (ht : t = false → t' = true) : AOp P ⟨d, .pick c a b, ty, pos, af, g⟩ [.p (.v (.bool t)), .p (.v (.bool true)), .mb t' (.p (.v (.bool y)))] [] [] (.p (.v (.bool (t || y)))) :=
  aop_pure fun S m w ev hr => by
    obtain ⟨k1, k2, k3⟩ := repL3 (u := ev c) (v := ev a) (t := ev b) hr
    refine ⟨_, ?_, rep_mk rfl⟩
    cases t with
    | true => simp [execOp, rep_v k1, rep_v k2, asBool]
    | false =>
      simp only [Rep] at k3
      have := k3 (ht rfl)
      simp only [PRep] at this
      simp [execOp, rep_v k1, this.1, asBool]
/-! parts of values -/
theorem a_extract {x : Operand} {i : Nat} {vs : List AV} {r : AV} (h : vs[i]? = some r) : AOp P ⟨d, .extract x i, ty, pos, af, g⟩ [.tup vs] [] [] r :=
  aop_pure fun S m w ev hr => by
    have k := repL1 (u := ev x) hr
    simp only [Rep] at k
    obtain ⟨us, h1, h2⟩ := k
    obtain ⟨u, h3, h4⟩ := h2.at_ h
    exact ⟨u, by simp [execOp, h1, Instr.extract, h3], h4⟩
theorem run_isAgg {t : TypeId} {ds : TypeDesc} (hu : P.underlying t = some ds) (w : World) : (isAgg t).run P w = .ok ds.isRow w := by
  unfold isAgg
  rw [Sem.run_bind, run_underlying hu w]
  cases ds <;> rfl
theorem run_sizeOf {t : TypeId} {n : Nat} (hi : (P.info? t).map (·.size) = some n) (w : World) : (sizeOf t).run P w = .ok n w := by
  cases hq : P.info? t with
  | none => simp [hq] at hi
  | some i => simp [hq] at hi; simp [sizeOf, typeInfo, hq, hi]
theorem part1 {t : TypeId} {ds : TypeDesc} (hu : P.underlying t = some ds) (hd : ds.isRow = false) {us : List Value} {off : Nat} {u : Value} (h : us[off]? = some u) (w : World) : (part t us.toArray off).run P w = .ok u w := by
  simp [part, run_isAgg hu, hd, h]
theorem partN {t : TypeId} {ds : TypeDesc} (hu : P.underlying t = some ds) (hd : ds.isRow = true) {k : Nat} (hi : (P.info? t).map (·.size) = some k) {us : List Value} {off : Nat} (w : World) :
    (part t us.toArray off).run P w = .ok (.agg ((us.drop off).take k).toArray) w := by
  simp [part, run_isAgg hu, hd, run_sizeOf hi, List.extract_eq_take_drop]
theorem a_field1 {x : Operand} {s : TypeId} {f : Nat} {fs : Array Field} {fd : Field} {off : Nat} {ds : TypeDesc} {cs : List AV} {r : AV} (hu : P.underlying s = some (.struct fs)) (hf : (fs[f]?).map (fun x => (x.type, x.offset)) = some (fd.type, off)) (ht : P.underlying fd.type = some ds) (hd : ds.isRow = false)
    (h : cs[off]? = some r) : AOp P ⟨d, .field s x f, ty, pos, af, g⟩ [.agg cs] [] [] r :=
  aop_pure fun S m w ev hr => by
    have k := repL1 (u := ev x) hr
    simp only [Rep] at k
    obtain ⟨us, h1, h2, _⟩ := k
    obtain ⟨u, h3, h4⟩ := h2.at_ h
    cases hq : fs[f]? with
    | none => simp [hq] at hf
    | some z =>
      simp [hq] at hf
      refine ⟨u, ?_, h4⟩
      simp [execOp, h1, Instr.field, run_underlying hu, hq, asAgg, hf.1, hf.2, part1 ht hd h3]
theorem all_sub {us : List Value} {off k : Nat} (h : ∀ x ∈ us, x.oneCell' = true) : ∀ x ∈ (us.drop off).take k, x.oneCell' = true :=
  fun x hx => h x (List.mem_of_mem_drop (List.mem_of_mem_take hx))
theorem a_fieldN {x : Operand} {s : TypeId} {f : Nat} {fs : Array Field} {fd : Field} {off k' : Nat} {ds : TypeDesc} {cs es : List AV} (hu : P.underlying s = some (.struct fs)) (hf : (fs[f]?).map (fun x => (x.type, x.offset)) = some (fd.type, off)) (ht : P.underlying fd.type = some ds) (hd : ds.isRow = true)
    (hi : (P.info? fd.type).map (·.size) = some k') (h : (cs.drop off).take k' = es) : AOp P ⟨d, .field s x f, ty, pos, af, g⟩ [.agg cs] [] [] (.agg es) :=
  aop_pure fun S m w ev hr => by
    have k := repL1 (u := ev x) hr
    simp only [Rep] at k
    obtain ⟨us, h1, h2, h3⟩ := k
    cases hq : fs[f]? with
    | none => simp [hq] at hf
    | some z =>
      simp [hq] at hf
      refine ⟨.agg ((us.drop off).take k').toArray, ?_, ?_⟩
      · simp [execOp, h1, Instr.field, run_underlying hu, hq, asAgg, hf.1, hf.2, partN ht hd hi]
      · simp only [Rep]
        exact ⟨_, rfl, h ▸ (h2.drop off).take _, all_sub h3⟩
end
end Go.Proofs.Ytgbgpidimipfjaa
