/- What a row lists of the package's variables, as the walks take it. -/
import Derived.Test.YtcjnecmgificmaaGreatDoorMa3
import Derived.Lib.LaidU8
namespace Go.Proofs.YtcjnecmgificmaaGreatDoor
open Go.RowKit Go.Sort
set_option linter.unusedVariables false

theorem err_reads {P : Program} {w : World} {n : String} {d : DataW Unit} {g t : Nat} {ms : Array (String × TypeId)} (hg : P.globalNamed n = some g) (hty : (P.globals[g]?).map (·.type) = some t) (ht : P.underlying t = some (.interface ms))
    (h : Lib.VarReads P w n d) : ∃ ev t fz, w.heap[g]? = some (.cells #[ev] t fz) ∧ (ev = .nilIface ∨ ∃ te pe, ev = .iface te pe) := by
  obtain ⟨g', t', cs, fuel, p, h1, h2, h3, h4⟩ := h
  obtain rfl := Option.some.inj (hg.symm.trans h1)
  obtain rfl := Option.some.inj (hty.symm.trans h2)
  obtain ⟨ty, fz, h5⟩ := heap_of_var hg h3
  have key : ∃ ev, cs.toList = [ev] ∧ (ev = .nilIface ∨ ∃ te pe, ev = .iface te pe) := by
    cases fuel with
    | zero => simp [DataW.trod] at h4
    | succ fuel =>
      unfold DataW.trod at h4
      rw [ht] at h4
      split at h4 <;> first | cases h4 | skip
      all_goals first | (rename_i e1 e2; cases e1) | skip
      all_goals simp_all
  obtain ⟨ev, h6, h7⟩ := key
  refine ⟨ev, ty, fz, ?_, h7⟩
  rw [h5]
  have : cs = #[ev] := by rw [← Array.toList_inj, h6]
  rw [this]
theorem tab_reads {P : Program} {w : World} {n : String} {g t e m : Nat} {k : IntKind} {zs : List Int} (hg : P.globalNamed n = some g) (hty : (P.globals[g]?).map (·.type) = some t) (ht : P.underlying t = some (.array m e)) (he : P.underlying e = some (.int k)) (hce : P.cellsOf e = 1) (hct : P.cellsOf t = m)
    (h : Lib.VarReads P w n (Lib.tabData k zs)) : ∃ t fz, w.heap[g]? = some (.cells (zs.map fun z => Value.int k z).toArray t fz) := by
  obtain ⟨g', t', cs, fuel, p, h1, h2, h3, h4⟩ := h
  obtain rfl := Option.some.inj (hg.symm.trans h1)
  obtain rfl := Option.some.inj (hty.symm.trans h2)
  obtain ⟨ty, fz, h5⟩ := heap_of_var hg h3
  have := Lib.cells_of_tab ht he hce hct h4
  refine ⟨ty, fz, ?_⟩
  rw [h5, ← this]
end Go.Proofs.YtcjnecmgificmaaGreatDoor
