/- Words of 32 bits: sha.down, sha.rounds, sha.words and what the reference has for them, over data. -/
import Derived.Test.YtgbgpidimipfjaaSh1
namespace Go.Proofs.Ytgbgpidimipfjaa
open Go.RowKit Go.Sort
set_option linter.unusedVariables false
set_option linter.unusedSimpArgs false
set_option maxRecDepth 100000

def ad (a b : Int) : Int := IntKind.u32.wrap (a + b)
def xr (a b : Int) : Int := bits .xor .u32 a b
def an (a b : Int) : Int := bits .and .u32 a b
def sr (x : Int) (k : Nat) : Int := x.fdiv (2 ^ k)
def rlS (n : Int) : Int := bits .and .u64 (IntKind.u64.wrap (IntKind.i64.wrap (0 - n))) 31
def rl (x n : Int) : Int := bits .or .u32 (IntKind.u32.wrap (x * 2 ^ min (rlS n).toNat 32)) (x.fdiv (2 ^ min (32 - rlS n).toNat 32))
theorem u64_and_bd (a : Int) : 0 ≤ bits .and .u64 a 31 ∧ bits .and .u64 a 31 ≤ 31 := by
  have h2 : (BitVec.ofInt 64 (31 : Int)).toNat = 31 := by decide
  have e : bits .and .u64 a 31 = IntKind.u64.wrap ((BitVec.ofInt 64 a &&& BitVec.ofInt 64 31).toNat : Int) := rfl
  rw [e, BitVec.toNat_and, h2]
  have h3 : (BitVec.ofInt 64 a).toNat &&& 31 ≤ 31 := Nat.and_le_right
  rw [IntWalk.u64_in _ (by omega)]
  omega
theorem rotL_s (x n : Int) : Fn Try.prog 89 [.p (.v (.int .u32 x)), .p (.v (.int .i64 (IntKind.i64.wrap (0 - n))))] (.p (.v (.int .u32 (rl x n)))) [] := by
  have hb := u64_and_bd (IntKind.u64.wrap (IntKind.i64.wrap (0 - n)))
  change 0 ≤ rlS n ∧ rlS n ≤ 31 at hb
  refine fn_intro Try.func89 rfl (Nat.le_of_ble_eq_true rfl) fun w0 A => ?_
  refine awp_seq ?_
  refine awp_text (by kernel_rfl) ?_
  (refine r_pure (a_assign (r := .p _)) rfl rfl ?_)
  refine arun_nil ?_
  refine awp_seq ?_
  refine awp_text (by kernel_rfl) ?_
  (refine r_pure (a_move (r := .p _)) rfl rfl ?_)
  (refine r_pure (a_conv Try.underlying3 Try.underlying71 (by first | exact IntWalk.u64_in _ (by omega) | rfl)) rfl rfl ?_)
  (refine r_pure (a_bits (by simp) (show _ = rlS n from rfl)) rfl rfl ?_)
  (refine r_pure (a_assign (r := .p _)) rfl rfl ?_)
  refine arun_nil ?_
  refine awp_seq ?_
  refine awp_text (by kernel_rfl) ?_
  (refine r_pure (a_move (r := .p _)) rfl rfl ?_)
  (refine r_pure (a_move (r := .p _)) rfl rfl ?_)
  (refine r_pure (a_shl (by omega) (by first | exact IntWalk.u32_in _ (by omega) | rfl)) rfl rfl ?_)
  (refine r_pure (a_move (r := .p _)) rfl rfl ?_)
  (refine r_pure (a_move (r := .p _)) rfl rfl ?_)
  (refine r_pure (a_sub (by first | exact IntWalk.u64_in _ (by omega) | rfl)) rfl rfl ?_)
  (refine r_pure (a_shr (by omega) rfl) rfl rfl ?_)
  (refine r_pure (a_bits (by simp) (show _ = rl x n from rfl)) rfl rfl ?_)
  (refine r_pure (a_assign (r := .p _)) rfl rfl ?_)
  refine arun_nil ?_
  refine awp_ret ?_
  refine ⟨(by first | exact .inl rfl | exact .inr rfl), _, (fun o => o), (.tmp _ _ _ _ rfl .nil), ?_, rfl, ?_, rfl⟩
  · exact rfl
  · exact trivial
theorem down_s (x n : Int) : Fn Try.prog 82 [.p (.v (.int .u32 x)), .p (.v (.int .i64 n))] (.p (.v (.int .u32 (rl x n)))) [] := by
  refine fn_intro Try.func82 rfl (Nat.le_of_ble_eq_true rfl) fun w0 A => ?_
  refine awp_seq ?_
  refine awp_text (by kernel_rfl) ?_
  (refine r_pure (a_assign (r := .p _)) rfl rfl ?_)
  refine arun_nil ?_
  refine awp_seq ?_
  refine awp_text (by kernel_rfl) ?_
  (refine r_pure (a_move (r := .p _)) rfl rfl ?_)
  (refine r_pure (a_move (r := .p _)) rfl rfl ?_)
  (refine r_pure (a_neg (by first | exact IntWalk.i64_in _ (by omega) | rfl)) rfl rfl ?_)
  (refine r_callV (fun n => 8 + 1000 * n) (rotL_s x n) rfl rfl Try.func89 rfl rfl (by first | rfl | simp [AV.noSl, AV.noSlL, AObj.noSl, PV.isV, bs_noSl]) (by first | rfl | simp [AV.noSl, AV.noSlL, AObj.noSl, PV.isV, bs_noSl]) rfl rfl rfl (by first | exact trivial | exact ⟨rfl, trivial⟩ | exact ⟨rfl, rfl, trivial⟩) rfl rfl rfl ?_)
  (refine r_pure (a_assign (r := .p _)) rfl rfl ?_)
  refine arun_nil ?_
  refine awp_ret ?_
  refine ⟨(by first | exact .inl rfl | exact .inr rfl), _, (fun o => o), (.tmp _ _ _ _ rfl .nil), ?_, rfl, ?_, rfl⟩
  · exact rfl
  · exact trivial
theorem rotated_s (x n : Int) : Fn Try.prog 83 [.p (.v (.int .u32 x)), .p (.v (.int .i64 n))] (.p (.v (.int .u32 (rl x n)))) [] := by
  refine fn_intro Try.func83 rfl (Nat.le_of_ble_eq_true rfl) fun w0 A => ?_
  refine awp_seq ?_
  refine awp_text (by kernel_rfl) ?_
  (refine r_pure (a_assign (r := .p _)) rfl rfl ?_)
  refine arun_nil ?_
  refine awp_seq ?_
  refine awp_text (by kernel_rfl) ?_
  (refine r_pure (a_move (r := .p _)) rfl rfl ?_)
  (refine r_pure (a_move (r := .p _)) rfl rfl ?_)
  (refine r_pure (a_neg (by first | exact IntWalk.i64_in _ (by omega) | rfl)) rfl rfl ?_)
  (refine r_callV (fun n => 8 + 1000 * n) (rotL_s x n) rfl rfl Try.func89 rfl rfl (by first | rfl | simp [AV.noSl, AV.noSlL, AObj.noSl, PV.isV, bs_noSl]) (by first | rfl | simp [AV.noSl, AV.noSlL, AObj.noSl, PV.isV, bs_noSl]) rfl rfl rfl (by first | exact trivial | exact ⟨rfl, trivial⟩ | exact ⟨rfl, rfl, trivial⟩) rfl rfl rfl ?_)
  (refine r_pure (a_assign (r := .p _)) rfl rfl ?_)
  refine arun_nil ?_
  refine awp_ret ?_
  refine ⟨(by first | exact .inl rfl | exact .inr rfl), _, (fun o => o), (.tmp _ _ _ _ rfl .nil), ?_, rfl, ?_, rfl⟩
  · exact rfl
  · exact trivial
end Go.Proofs.Ytgbgpidimipfjaa
