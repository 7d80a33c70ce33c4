/- An interface value against nil, over data. -/
import Derived.Test.YtcjnecmgificmaaGreatDoorMa4
namespace Go.Proofs.YtcjnecmgificmaaGreatDoor
open Go.RowKit Go.Sort
set_option linter.unusedVariables false
set_option linter.unusedSimpArgs false

def isIfc : Value → Bool
  | .iface _ _ => true
  | _ => false
theorem isIfc_ex {v : Value} (h : isIfc v = true) : ∃ t x, v = .iface t x := by
  cases v <;> simp [isIfc] at h
  exact ⟨_, _, rfl⟩
theorem guard_ifI (op : BinOp) (t : TypeId) (x y : Operand) (te : TypeId) (pe : Value) (w : World) {P : Program} : (eqGuard op t x y (.iface te pe) .nilIface).run P w = .ok () w := by
  unfold eqGuard
  cases op <;> rfl
theorem guard_ifN (op : BinOp) (t : TypeId) (x : Operand) (c : Value) (w : World) {P : Program} : (eqGuard op t x (.const c) .nilIface .nilIface).run P w = .ok () w := by
  unfold eqGuard
  cases op <;> first | rfl | simp
section
variable {P : Program} {d : Option Tmp} {ty : TypeId} {pos : String} {af : Array Edge} {g : Option (Nat × Bool)} {xt yt : TypeId} {x : Operand} {c : Value} {ms : Array (String × TypeId)}
theorem run_ifI (w : World) (hu : P.underlying xt = some (.interface ms)) (te : TypeId) (pe : Value) : (Op.equal xt (.iface te pe) .nilIface).run P w = .ok false w := by
  show (Op.equalIn (9999 + 1) xt (.iface te pe) .nilIface).run P w = .ok false w
  generalize 9999 = d
  simp [Op.equalIn, run_underlying hu]
theorem run_ifN (w : World) (hu : P.underlying xt = some (.interface ms)) : (Op.equal xt .nilIface .nilIface).run P w = .ok true w := by
  show (Op.equalIn (9999 + 1) xt .nilIface .nilIface).run P w = .ok true w
  generalize 9999 = d
  simp [Op.equalIn, run_underlying hu]
theorem a_ifneqI (hu : P.underlying xt = some (.interface ms)) : AOp P ⟨d, .binOp .neq xt x (.const c) yt, ty, pos, af, g⟩ [.sat isIfc, .p (.v .nilIface)] [] [] (.p (.v (.bool true))) :=
  aop_pure fun S m w ev hr => by
    obtain ⟨h1, h2⟩ := repL2 (u := ev x) (v := ev (.const c)) hr
    simp only [Rep] at h1
    obtain ⟨te, pe, h3⟩ := isIfc_ex h1.1
    exact ⟨.bool true, by simp only [execOp, h3, rep_v h2, Sem.run_bind, guard_ifI, Result.andThen_ok, binOp, run_ifI w hu, Sem.run_pure]; rfl, rep_mk rfl⟩
theorem a_ifeqlI (hu : P.underlying xt = some (.interface ms)) : AOp P ⟨d, .binOp .eql xt x (.const c) yt, ty, pos, af, g⟩ [.sat isIfc, .p (.v .nilIface)] [] [] (.p (.v (.bool false))) :=
  aop_pure fun S m w ev hr => by
    obtain ⟨h1, h2⟩ := repL2 (u := ev x) (v := ev (.const c)) hr
    simp only [Rep] at h1
    obtain ⟨te, pe, h3⟩ := isIfc_ex h1.1
    exact ⟨.bool false, by simp only [execOp, h3, rep_v h2, Sem.run_bind, guard_ifI, Result.andThen_ok, binOp, run_ifI w hu, Sem.run_pure], rep_mk rfl⟩
theorem a_ifneqN (hu : P.underlying xt = some (.interface ms)) : AOp P ⟨d, .binOp .neq xt x (.const c) yt, ty, pos, af, g⟩ [.p (.v .nilIface), .p (.v .nilIface)] [] [] (.p (.v (.bool false))) :=
  aop_pure fun S m w ev hr => by
    obtain ⟨h1, h2⟩ := repL2 (u := ev x) (v := ev (.const c)) hr
    exact ⟨.bool false, by simp only [execOp, rep_v h1, rep_v h2, Sem.run_bind, guard_ifN, Result.andThen_ok, binOp, run_ifN w hu, Sem.run_pure]; rfl, rep_mk rfl⟩
theorem a_ifeqlN (hu : P.underlying xt = some (.interface ms)) : AOp P ⟨d, .binOp .eql xt x (.const c) yt, ty, pos, af, g⟩ [.p (.v .nilIface), .p (.v .nilIface)] [] [] (.p (.v (.bool true))) :=
  aop_pure fun S m w ev hr => by
    obtain ⟨h1, h2⟩ := repL2 (u := ev x) (v := ev (.const c)) hr
    exact ⟨.bool true, by simp only [execOp, rep_v h1, rep_v h2, Sem.run_bind, guard_ifN, Result.andThen_ok, binOp, run_ifN w hu, Sem.run_pure], rep_mk rfl⟩
end
end Go.Proofs.YtcjnecmgificmaaGreatDoor
