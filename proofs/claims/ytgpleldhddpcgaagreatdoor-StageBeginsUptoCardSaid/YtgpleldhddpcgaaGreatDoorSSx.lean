/- strings.Index and strings.Contains of one letter, over data. -/
import Derived.Test.YtgpleldhddpcgaaGreatDoorSMa4
import Derived.Test.YtgpleldhddpcgaaGreatDoorSShelf
import Derived.Test.YtgpleldhddpcgaaGreatDoorSNuZ
namespace Go.Proofs.YtgpleldhddpcgaaGreatDoor
open Go.RowKit Go.Sort
set_option linter.unusedVariables false
set_option linter.unusedSimpArgs false
set_option maxRecDepth 100000
/-- where a letter stands first -/
def ixB (s : ByteArray) (c : UInt8) : Int := Lib.indexByte s.data.toList c
theorem indexByte_ge (c : UInt8) : ∀ l : List UInt8, -1 ≤ Lib.indexByte l c
  | [] => by simp [Lib.indexByte]
  | b :: l => by
    have := indexByte_ge c l
    simp only [Lib.indexByte]
    split
    · omega
    · split
      · omega
      · omega
theorem ixB_ge (s : ByteArray) (c : UInt8) : -1 ≤ ixB s c := indexByte_ge c _
theorem indexByte_lt (c : UInt8) : ∀ l : List UInt8, Lib.indexByte l c < l.length
  | [] => by simp [Lib.indexByte]
  | b :: l => by
    have := indexByte_lt c l
    simp only [Lib.indexByte, List.length_cons]
    split
    · omega
    · split
      · omega
      · omega
theorem sliteIB_s (s : ByteArray) (c : UInt8) : Fn Tryz.prog 161 [.p (.v (.string s)), .p (.v (.int .u8 (c.toNat : Nat)))] (.p (.v (.int .i64 (ixB s c)))) [] := by
  have h := fn_plain (P := Tryz.prog) (f := 161) [.string s, .int .u8 (c.toNat : Nat)] (r := .int .i64 (ixB s c)) rfl fun w => by
    have := Tryz.stringslite_IndexByte s (c.toNat : Nat) w
    rw [show ((c.toNat : Nat) : Int).toNat.toUInt8 = c by simp] at this
    exact this
  exact h
set_option maxHeartbeats 1000000 in
theorem sliteIndex1_s (s : ByteArray) (c : UInt8) : Fn Tryz.prog 156 [.p (.v (.string s)), .p (.v (.string ⟨#[c]⟩))] (.p (.v (.int .i64 (ixB s c)))) [] := by
  have hz : (⟨#[c]⟩ : ByteArray).size = 1 := rfl
  have hI := sliteIB_s s c
  refine fn_intro Tryz.func156 rfl (Nat.le_of_ble_eq_true rfl) fun w0 A => ?_
  refine awp_seq ?_
  refine tx ?_
  refine aP rfl rfl ?_
  refine arun_nil ?_
  refine awp_seq ?_
  refine tx ?_
  refine mP rfl rfl ?_
  refine r_pure (a_lenStr Tryz.underlying9) rfl rfl ?_
  refine aP rfl rfl ?_
  refine arun_nil ?_
  refine awp_seq (awp_block (awp_seq ?_))
  refine tx ?_
  refine mP rfl rfl ?_
  refine r_pure a_eql rfl rfl ?_
  refine mP rfl rfl ?_
  refine mb2 _ rfl rfl (fun hb => (a_move (r := .p _))) (fun _ => trivial) ?_
  refine mb2 _ rfl rfl (fun hb => (a_move (r := .p _))) (fun _ => trivial) ?_
  refine mb2 _ rfl rfl (fun hb => a_seql) (fun _ => trivial) ?_
  refine r_pure (a_or (by first | exact id | (simp; done) | grind)) rfl rfl ?_
  refine aP rfl rfl ?_
  refine arun_nil ?_
  refine thn_n ?_
  refine awp_cond _ rfl (fun h => ?_) (fun h => ?_)
  · have hs : s = ⟨#[c]⟩ := by
      rw [hz] at h
      simp at h
      exact h.symm
    have h0 : ixB s c = 0 := by rw [hs]; simp [ixB, Lib.indexByte]
    rw [h0]
    refine awp_seq ?_
    refine tx ?_
    refine aP rfl rfl ?_
    refine arun_nil ?_
    refine awp_ret (inb_r (thn_r ?_))
    refine fT (fun o => o) (.tmp _ _ _ _ rfl .nil) ?_ ?_
    · exact rfl
    · exact trivial
  clear h
  refine awp_seq ?_
  refine tx ?_
  refine mP rfl rfl ?_
  refine r_pure a_eql rfl rfl ?_
  refine aP rfl rfl ?_
  refine arun_nil ?_
  refine thn_n ?_
  refine awp_cond _ rfl (fun h => ?_) (fun h => ?_)
  · refine awp_seq ?_
    refine tx ?_
    refine mP rfl rfl ?_
    refine mP rfl rfl ?_
    refine r_pure (a_indexStr Tryz.underlying9 (by omega) (show _ = some ((c.toNat : Nat) : Int) from rfl)) rfl rfl ?_
    refine r_callV (fun n => 30 + 1000 * n) (hI) rfl rfl Tryz.func161 rfl rfl (by first | rfl | simp [AV.noSl, AV.noSlL, AObj.noSl, PV.isV, bs_noSl]) (by first | rfl | simp [AV.noSl, AV.noSlL, AObj.noSl, PV.isV, bs_noSl]) rfl rfl rfl (by first | exact trivial | exact ⟨rfl, trivial⟩ | exact ⟨rfl, rfl, trivial⟩) rfl rfl rfl ?_
    refine aP rfl rfl ?_
    refine arun_nil ?_
    refine awp_ret (inb_r (thn_r ?_))
    refine fT (fun o => o) (.tmp _ _ _ _ rfl .nil) ?_ ?_
    · exact rfl
    · exact trivial
  · rw [hz] at h; simp at h
theorem index1_s (s : ByteArray) (c : UInt8) : Fn Tryz.prog 123 [.p (.v (.string s)), .p (.v (.string ⟨#[c]⟩))] (.p (.v (.int .i64 (ixB s c)))) [] := by
  have hI := sliteIndex1_s s c
  refine fn_intro Tryz.func123 rfl (Nat.le_of_ble_eq_true rfl) fun w0 A => ?_
  refine awp_seq ?_
  refine tx ?_
  refine aP rfl rfl ?_
  refine arun_nil ?_
  refine awp_seq ?_
  refine tx ?_
  refine mP rfl rfl ?_
  refine mP rfl rfl ?_
  refine r_callV (fun n => 7 + 1000 * n) (hI) rfl rfl Tryz.func156 rfl rfl (by first | rfl | simp [AV.noSl, AV.noSlL, AObj.noSl, PV.isV, bs_noSl]) (by first | rfl | simp [AV.noSl, AV.noSlL, AObj.noSl, PV.isV, bs_noSl]) rfl rfl rfl (by first | exact trivial | exact ⟨rfl, trivial⟩ | exact ⟨rfl, rfl, trivial⟩) rfl rfl rfl ?_
  refine aP rfl rfl ?_
  refine arun_nil ?_
  refine awp_ret ?_
  refine fT (fun o => o) (.tmp _ _ _ _ rfl .nil) ?_ ?_
  · exact rfl
  · exact trivial
end Go.Proofs.YtgpleldhddpcgaaGreatDoor
