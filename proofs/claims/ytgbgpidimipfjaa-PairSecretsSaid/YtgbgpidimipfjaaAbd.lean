/- The machine over data: what is compared with itself; operations whose guard is known. -/
import Derived.Test.YtgbgpidimipfjaaAbb
namespace Go.Proofs.Ytgbgpidimipfjaa
open Go.RowKit Go.Sort
set_option linter.unusedVariables false
section
variable {P : Program} {d : Option Tmp} {ty : TypeId} {pos : String} {af : Array Edge} {g : Option (Nat × Bool)} {xt yt : TypeId} {x y : Operand}
theorem a_eqlT {k : IntKind} {a : Int} : AOp P ⟨d, .binOp .eql xt x y yt, ty, pos, af, g⟩ [.p (.v (.int k a)), .p (.v (.int k a))] [] [] (.p (.v (.bool true))) := by
  have h : AOp P ⟨d, .binOp .eql xt x y yt, ty, pos, af, g⟩ [.p (.v (.int k a)), .p (.v (.int k a))] [] [] (.p (.v (.bool (a == a)))) := a_eql
  rwa [beq_self_eq_true] at h
theorem a_neqT {k : IntKind} {a : Int} : AOp P ⟨d, .binOp .neq xt x y yt, ty, pos, af, g⟩ [.p (.v (.int k a)), .p (.v (.int k a))] [] [] (.p (.v (.bool false))) := by
  have h : AOp P ⟨d, .binOp .neq xt x y yt, ty, pos, af, g⟩ [.p (.v (.int k a)), .p (.v (.int k a))] [] [] (.p (.v (.bool (a != a)))) := a_neq
  rwa [bne_self_eq_false] at h
theorem a_seqlT {s : ByteArray} : AOp P ⟨d, .binOp .eql xt x y yt, ty, pos, af, g⟩ [.p (.v (.string s)), .p (.v (.string s))] [] [] (.p (.v (.bool true))) := by
  have h : AOp P ⟨d, .binOp .eql xt x y yt, ty, pos, af, g⟩ [.p (.v (.string s)), .p (.v (.string s))] [] [] (.p (.v (.bool (decide (s = s))))) := a_seql
  rwa [decide_eq_true rfl] at h
theorem a_sneqT {s : ByteArray} : AOp P ⟨d, .binOp .neq xt x y yt, ty, pos, af, g⟩ [.p (.v (.string s)), .p (.v (.string s))] [] [] (.p (.v (.bool false))) := by
  have h : AOp P ⟨d, .binOp .neq xt x y yt, ty, pos, af, g⟩ [.p (.v (.string s)), .p (.v (.string s))] [] [] (.p (.v (.bool (!decide (s = s))))) := a_sneq
  rwa [decide_eq_true rfl] at h
theorem a_beqlT {b : Bool} (hu : P.underlying xt = some .bool) : AOp P ⟨d, .binOp .eql xt x y yt, ty, pos, af, g⟩ [.p (.v (.bool b)), .p (.v (.bool b))] [] [] (.p (.v (.bool true))) := by
  have h : AOp P ⟨d, .binOp .eql xt x y yt, ty, pos, af, g⟩ [.p (.v (.bool b)), .p (.v (.bool b))] [] [] (.p (.v (.bool (b == b)))) := a_beql hu
  rwa [beq_self_eq_true] at h
theorem a_bneqT {b : Bool} (hu : P.underlying xt = some .bool) : AOp P ⟨d, .binOp .neq xt x y yt, ty, pos, af, g⟩ [.p (.v (.bool b)), .p (.v (.bool b))] [] [] (.p (.v (.bool false))) := by
  have h : AOp P ⟨d, .binOp .neq xt x y yt, ty, pos, af, g⟩ [.p (.v (.bool b)), .p (.v (.bool b))] [] [] (.p (.v (.bool (b != b)))) := a_bneq hu
  rwa [bne_self_eq_false] at h
theorem a_pickT {c a b : Operand} {X Y : AV} : AOp P ⟨d, .pick c a b, ty, pos, af, g⟩ [.p (.v (.bool true)), X, Y] [] [] X :=
  aop_pure fun S m w ev hr => by
    obtain ⟨k1, k2, k3⟩ := repL3 (u := ev c) (v := ev a) (t := ev b) hr
    exact ⟨_, by simp [execOp, rep_v k1, asBool], k2⟩
theorem a_pickF {c a b : Operand} {X Y : AV} : AOp P ⟨d, .pick c a b, ty, pos, af, g⟩ [.p (.v (.bool false)), X, Y] [] [] Y :=
  aop_pure fun S m w ev hr => by
    obtain ⟨k1, k2, k3⟩ := repL3 (u := ev c) (v := ev a) (t := ev b) hr
    exact ⟨_, by simp [execOp, rep_v k1, asBool], k3⟩
theorem a_smin {x y : Operand} {ts : Array TypeId} {s t : ByteArray} : AOp P ⟨d, .call { callee := .builtin .min, args := #[x, y], argTypes := ts }, ty, pos, af, g⟩ [.p (.v (.string s)), .p (.v (.string t))] [] [] (.p (.v (.string (if sLt s t || decide (s = t) then s else t)))) :=
  aop_pure fun S m w ev hr => by
    obtain ⟨h1, h2⟩ := repL2 (u := ev x) (v := ev y) hr
    refine ⟨_, ?_, rep_mk rfl⟩
    simp only [execOp, resolve, invoke, builtin, Builtin.min_]
    simp [Builtin.min2, Op.stringOp, sLt, asBool, rep_v h1, rep_v h2, ← str_beq]
theorem a_smax {x y : Operand} {ts : Array TypeId} {s t : ByteArray} : AOp P ⟨d, .call { callee := .builtin .max, args := #[x, y], argTypes := ts }, ty, pos, af, g⟩ [.p (.v (.string s)), .p (.v (.string t))] [] [] (.p (.v (.string (if !sLt s t then s else t)))) :=
  aop_pure fun S m w ev hr => by
    obtain ⟨h1, h2⟩ := repL2 (u := ev x) (v := ev y) hr
    refine ⟨_, ?_, rep_mk rfl⟩
    simp only [execOp, resolve, invoke, builtin, Builtin.max_]
    simp [Builtin.max2, Op.stringOp, sLt, asBool, rep_v h1, rep_v h2]
end
theorem a_callS0 {P : Program} {d : Option Tmp} {ty : TypeId} {pos : String} {af : Array Edge} {g : Option (Nat × Bool)} {x : Operand} {args : Array Operand} {ts : Array TypeId} {f : FuncId} {fn : Func} {xs cs : List AV} {res : AV} (hf : P.funcs[f]? = some fn) (hb : fn.body.isNone = false) (hn : (fn.name == "runtime.NumGoroutine") = false)
    (hC : Fn P f (xs ++ cs) res []) (h1 : AV.okInL [] (xs ++ cs) = true) (h3 : res.okIn [] = true) :
    AOp P ⟨d, .call { callee := .value x, args := args, argTypes := ts }, ty, pos, af, g⟩ (.fn f cs :: xs) [] [] res := by
  have h := a_callS (P := P) (d := d) (ty := ty) (pos := pos) (af := af) (g := g) (x := x) (args := args) (ts := ts) (fun o => o) hf hb hn hC h1 h3 rfl rfl
  rw [ren_id] at h
  exact h
theorem less_not : ∀ {x y : List UInt8}, x ≠ y → Op.bytesLess y x = !Op.bytesLess x y
  | [], [], h => absurd rfl h
  | [], b :: y, _ => rfl
  | a :: x, [], _ => rfl
  | a :: x, b :: y, h => by
    simp only [Op.bytesLess]
    by_cases e : a = b
    · subst e
      have h2 : x ≠ y := fun e => h (by rw [e])
      have hl : ¬ a < a := UInt8.lt_irrefl a
      simp [hl, less_not h2]
    · rcases UInt8.lt_or_lt_of_ne e with hl | hl
      · have hn : ¬ b < a := fun k => absurd (UInt8.lt_trans hl k) (UInt8.lt_irrefl a)
        simp [hl, hn, Ne.symm e]
      · have hn : ¬ a < b := fun k => absurd (UInt8.lt_trans hl k) (UInt8.lt_irrefl b)
        simp [hl, hn, e]
theorem sLt_not {s t : ByteArray} (h : s ≠ t) : sLt t s = !sLt s t := by
  refine less_not fun e => h ?_
  rw [ByteArray.toList_eq, ByteArray.toList_eq] at e
  cases s; cases t
  congr 1
  exact Array.toList_inj.1 e
/-- arms that meet, of which some may have left -/
theorem awp_join2 {P : Program} {w0 : World} {A : Nat → Prop} {nt : Nat} {c d : Code} {Q : Exit → St → Prop} {st : St} (st1 : St) (h : awp ⟨P, w0, ctx0 A, nt⟩ c (Thn (fun st' => Re st' st1) Q) st) (k : awp ⟨P, w0, ctx0 A, nt⟩ d Q st1) : awp ⟨P, w0, ctx0 A, nt⟩ c (Thn (awp ⟨P, w0, ctx0 A, nt⟩ d Q) Q) st :=
  awp_mono h fun e st' hq => by
    cases e with
    | normal => exact awp_re hq k
    | _ => exact hq
theorem r_skipG {P : Program} {ops : Array Oper} {K : List Foot → St → Prop} {o : Oper} {l : List Oper} {fs : List Foot} {st : St} (hg : awanted ops o st = some false) (k : ARun P ops K l (fs ++ [([], [])]) (st.put o.dst .any)) : ARun P ops K (o :: l) fs st :=
  ⟨([], []), _, .skip _ .any hg (fun _ _ _ _ => by simp only [Rep]), k⟩
end Go.Proofs.Ytgbgpidimipfjaa
