/- trie: nets, sides, growing a tree of a list. -/
import Derived.Test.YtgpleldhddpcgaaGreatDoorFz
import Derived.Test.YtgpleldhddpcgaaGreatDoorTrY
import Derived.Test.YtgpleldhddpcgaaGreatDoorNetZ
namespace Go.Proofs.YtgpleldhddpcgaaGreatDoor
open Go.RowKit Go.Sort
set_option linter.unusedVariables false
set_option linter.unusedSimpArgs false
set_option maxRecDepth 100000

/-! nets over data -/
theorem nHas_s (a n x : Int) (h2 : 0 ≤ a) (h3 : a < 4294967296) (h4 : 0 ≤ x) (h5 : x < 4294967296) : Fn Tryz.prog 143 [.agg (netA a n), .p (.v (.int .u32 x))] (.p (.v (.bool (netHas a n x)))) [] :=
  fn_gives rfl (fun _ _ _ => rep_mk rfl) (has_g a n x h2 h3 h4 h5)
theorem nHolds_s (a n b m : Int) (h2 : 0 ≤ a) (h3 : a < 4294967296) (h4 : 0 ≤ b) (h5 : b < 4294967296) : Fn Tryz.prog 98 [.agg (netA a n), .agg (netA b m)] (.p (.v (.bool (netHolds a n b m)))) [] :=
  fn_gives rfl (fun _ _ _ => rep_mk rfl) (holds_g a n b m h2 h3 h4 h5)
theorem kHolds_s (p q : Key) (hp : p.length ≤ 32) (hq : q.length ≤ 32) : Fn Tryz.prog 98 [.agg (netA (addrK p) p.length), .agg (netA (addrK q) q.length)] (.p (.v (.bool (decide (p <+: q))))) [] := by
  have h := nHolds_s (addrK p) p.length (addrK q) q.length (addrK_bd p hp).1 (addrK_bd p hp).2 (addrK_bd q hq).1 (addrK_bd q hq).2
  rw [holds_pre p q hp hq] at h
  exact h
def bitN (q : Key) (i : Nat) : Nat := if bitAt q i = true then 1 else 0
theorem bitN_le (q : Key) (i : Nat) : bitN q i ≤ 1 := by unfold bitN; split <;> omega
theorem side_bits (p q : Key) (h : p.length < q.length) (hq : q.length ≤ 32) : bits .and .u32 ((addrK q).fdiv (2 ^ min (31 - (p.length : Int)).toNat IntKind.u32.bits)) 1 = (bitN q p.length : Nat) := by
  have hm : min (31 - (p.length : Int)).toNat IntKind.u32.bits = (31 - (p.length : Int)).toNat := Nat.min_eq_left (by simp only [IntKind.bits]; omega)
  obtain ⟨b0, b1⟩ := addrK_bd q hq
  obtain ⟨s0, s1⟩ := shr_bd (addrK q) (31 - (p.length : Int)).toNat b0 b1
  rw [hm, Int.fdiv_eq_ediv_of_nonneg _ (Int.le_of_lt (pow_pos' _)), bits_and_one _ s0 s1, bit_key q p.length hq h]
  unfold bitN; split <;> rfl
theorem side_s (p q : Key) (h : p.length < q.length) (hq : q.length ≤ 32) : Fn Tryz.prog 99 [.agg (netA (addrK p) p.length), .agg (netA (addrK q) q.length)] (.p (.v (.int .i64 (bitN q p.length : Nat)))) [] := by
  have hsb := side_bits p q h hq
  have hl := bitN_le q p.length
  generalize bitN q p.length = b at *
  refine fn_intro Tryz.func99 rfl (Nat.le_of_ble_eq_true rfl) fun w0 A => ?_
  refine awp_seq ?_
  refine tx ?_
  refine r_run (a_box (X := .agg _) 2 rfl) rfl rfl ⟨rfl, trivial⟩ ?_
  refine r_run (a_box (X := .agg _) 3 rfl) rfl rfl ⟨rfl, trivial⟩ ?_
  refine aP rfl rfl ?_
  refine arun_nil ?_
  refine awp_seq ?_
  refine tx ?_
  refine fA fi52_0 rfl rfl ?_
  refine l1 Tryz.underlying50 rfl rfl rfl ⟨rfl, trivial⟩ ?_
  refine fA fi52_1 rfl rfl ?_
  refine l1 Tryz.underlying3 rfl rfl rfl ⟨rfl, trivial⟩ ?_
  refine r_pure (a_sub (by first | exact IntWalk.i64_in _ (by omega) | rfl)) rfl rfl ?_
  refine r_pure (a_shr (by omega) rfl) rfl rfl ?_
  refine r_pure (a_bits (by simp) hsb) rfl rfl ?_
  refine r_pure (a_conv Tryz.underlying50 Tryz.underlying3 (by first | exact IntWalk.i64_in _ (by omega) | rfl)) rfl rfl ?_
  refine aP rfl rfl ?_
  refine arun_nil ?_
  refine awp_ret ?_
  refine fT (fun o => o) (.tmp _ _ _ _ rfl .nil) ?_ ?_
  · exact rfl
  · exact trivial
theorem below_s (p q : Key) (hp : p.length ≤ 32) (hq : q.length ≤ 32) : Fn Tryz.prog 142 [.agg (netA (addrK p) p.length), .agg (netA (addrK q) q.length)] (.p (.v (.bool (belowB p q)))) [] := by
  have hH := kHolds_s p q hp hq
  have e : belowB p q = (decide ((p.length : Int) < (q.length : Int)) && decide (p <+: q)) := by unfold belowB; congr 1; exact decide_eq_decide.2 (by omega)
  rw [e]
  generalize decide (p <+: q) = c at *
  refine fn_intro Tryz.func142 rfl (Nat.le_of_ble_eq_true rfl) fun w0 A => ?_
  refine awp_seq ?_
  refine tx ?_
  refine r_run (a_box (X := .agg _) 2 rfl) rfl rfl ⟨rfl, trivial⟩ ?_
  refine r_run (a_box (X := .agg _) 3 rfl) rfl rfl ⟨rfl, trivial⟩ ?_
  refine aP rfl rfl ?_
  refine arun_nil ?_
  refine awp_seq ?_
  refine tx ?_
  refine fA fi52_1 rfl rfl ?_
  refine l1 Tryz.underlying3 rfl rfl rfl ⟨rfl, trivial⟩ ?_
  refine fA fi52_1 rfl rfl ?_
  refine l1 Tryz.underlying3 rfl rfl rfl ⟨rfl, trivial⟩ ?_
  refine r_pure a_gtr rfl rfl ?_
  refine mP rfl rfl ?_
  refine mb2 _ rfl rfl (fun hb => (a_loadN Tryz.underlying52 rfl sz52 (by first | exact Nat.le_of_ble_eq_true rfl | omega | (simp only [AV.cells, List.length_map]; omega)) (by first | exact take_all (by first | assumption | exact Nat.eq_of_beq_eq_true rfl | (simp only [AV.cells, List.length_map]; first | assumption | omega)) | (simp only [List.take_succ_cons, List.take_zero, List.drop_succ_cons, List.drop_zero]; rfl) | rfl))) (fun _ => ⟨rfl, trivial⟩) ?_
  refine mb2 _ rfl rfl (fun hb => (a_loadN Tryz.underlying52 rfl sz52 (by first | exact Nat.le_of_ble_eq_true rfl | omega | (simp only [AV.cells, List.length_map]; omega)) (by first | exact take_all (by first | assumption | exact Nat.eq_of_beq_eq_true rfl | (simp only [AV.cells, List.length_map]; first | assumption | omega)) | (simp only [List.take_succ_cons, List.take_zero, List.drop_succ_cons, List.drop_zero]; rfl) | rfl))) (fun _ => ⟨rfl, trivial⟩) ?_
  refine mb2 _ rfl rfl (fun _ => a_callS0 Tryz.func98 rfl rfl (hH) (by first | rfl | simp [AV.okInL, AV.okIn, okInL_map]) rfl) (fun _ => trivial) ?_
  refine r_pure (a_and (by first | exact id | (simp; done) | grind)) rfl rfl ?_
  refine aP rfl rfl ?_
  refine arun_nil ?_
  refine awp_ret ?_
  refine fT (fun o => o) (.tmp _ _ _ _ rfl .nil) ?_ ?_
  · exact rfl
  · exact trivial
end Go.Proofs.YtgpleldhddpcgaaGreatDoor
