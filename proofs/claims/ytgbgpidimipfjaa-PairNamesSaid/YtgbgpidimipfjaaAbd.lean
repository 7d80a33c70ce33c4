/- The machine over data: what is compared with itself; operations whose guard is known. -/
import Derived.Test.YtgbgpidimipfjaaAbb
namespace Go.Proofs.Ytgbgpidimipfjaa
open Go.RowKit Go.Sort
set_option linter.unusedVariables false
section
variable {P : Program} {d : Option Tmp} {ty : TypeId} {pos : String} {af : Array Edge} {g : Option (Nat × Bool)} {xt yt : TypeId} {x y : Operand}
theorem a_eqlT {k : IntKind} {a : Int} : AOp P ⟨d, .binOp .eql xt x y yt, ty, pos, af, g⟩ [.p (.v (.int k a)), .p (.v (.int k a))] [] [] (.p (.v (.bool true))) := by
  have h : AOp P ⟨d, .binOp .eql xt x y yt, ty, pos, af, g⟩ [.p (.v (.int k a)), .p (.v (.int k a))] [] [] (.p (.v (.bool (a == a)))) := a_eql
  rwa [beq_self_eq_true] at h
theorem a_neqT {k : IntKind} {a : Int} : AOp P ⟨d, .binOp .neq xt x y yt, ty, pos, af, g⟩ [.p (.v (.int k a)), .p (.v (.int k a))] [] [] (.p (.v (.bool false))) := by
  have h : AOp P ⟨d, .binOp .neq xt x y yt, ty, pos, af, g⟩ [.p (.v (.int k a)), .p (.v (.int k a))] [] [] (.p (.v (.bool (a != a)))) := a_neq
  rwa [bne_self_eq_false] at h
theorem a_seqlT {s : ByteArray} : AOp P ⟨d, .binOp .eql xt x y yt, ty, pos, af, g⟩ [.p (.v (.string s)), .p (.v (.string s))] [] [] (.p (.v (.bool true))) := by
  have h : AOp P ⟨d, .binOp .eql xt x y yt, ty, pos, af, g⟩ [.p (.v (.string s)), .p (.v (.string s))] [] [] (.p (.v (.bool (decide (s = s))))) := a_seql
  rwa [decide_eq_true rfl] at h
theorem a_sneqT {s : ByteArray} : AOp P ⟨d, .binOp .neq xt x y yt, ty, pos, af, g⟩ [.p (.v (.string s)), .p (.v (.string s))] [] [] (.p (.v (.bool false))) := by
  have h : AOp P ⟨d, .binOp .neq xt x y yt, ty, pos, af, g⟩ [.p (.v (.string s)), .p (.v (.string s))] [] [] (.p (.v (.bool (!decide (s = s))))) := a_sneq
  rwa [decide_eq_true rfl] at h
theorem a_beqlT {b : Bool} (hu : P.underlying xt = some .bool) : AOp P ⟨d, .binOp .eql xt x y yt, ty, pos, af, g⟩ [.p (.v (.bool b)), .p (.v (.bool b))] [] [] (.p (.v (.bool true))) := by
  have h : AOp P ⟨d, .binOp .eql xt x y yt, ty, pos, af, g⟩ [.p (.v (.bool b)), .p (.v (.bool b))] [] [] (.p (.v (.bool (b == b)))) := a_beql hu
  rwa [beq_self_eq_true] at h
theorem a_bneqT {b : Bool} (hu : P.underlying xt = some .bool) : AOp P ⟨d, .binOp .neq xt x y yt, ty, pos, af, g⟩ [.p (.v (.bool b)), .p (.v (.bool b))] [] [] (.p (.v (.bool false))) := by
  have h : AOp P ⟨d, .binOp .neq xt x y yt, ty, pos, af, g⟩ [.p (.v (.bool b)), .p (.v (.bool b))] [] [] (.p (.v (.bool (b != b)))) := a_bneq hu
  rwa [bne_self_eq_false] at h
theorem a_pickT {c a b : Operand} {X Y : AV} : AOp P ⟨d, .pick c a b, ty, pos, af, g⟩ [.p (.v (.bool true)), X, Y] [] [] X :=
  aop_pure fun S m w ev hr => by
    obtain ⟨k1, k2, k3⟩ := repL3 (u := ev c) (v := ev a) (t := ev b) hr
    exact ⟨_, by simp [execOp, rep_v k1, asBool], k2⟩
theorem a_pickF {c a b : Operand} {X Y : AV} : AOp P ⟨d, .pick c a b, ty, pos, af, g⟩ [.p (.v (.bool false)), X, Y] [] [] Y :=
  aop_pure fun S m w ev hr => by
    obtain ⟨k1, k2, k3⟩ := repL3 (u := ev c) (v := ev a) (t := ev b) hr
    exact ⟨_, by simp [execOp, rep_v k1, asBool], k3⟩
end
theorem r_skipG {P : Program} {ops : Array Oper} {K : List Foot → St → Prop} {o : Oper} {l : List Oper} {fs : List Foot} {st : St} (hg : awanted ops o st = some false) (k : ARun P ops K l (fs ++ [([], [])]) (st.put o.dst .any)) : ARun P ops K (o :: l) fs st :=
  ⟨([], []), _, .skip _ .any hg (fun _ _ _ _ => by simp only [Rep]), k⟩
end Go.Proofs.Ytgbgpidimipfjaa
