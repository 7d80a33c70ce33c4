/- bytes.Equal, mac.Right, seal.Open, its reference, and the law SealOpens, over data. -/
import Derived.Test.YtmdkfhmmhiofbaaSl2
namespace Go.Proofs.Ytmdkfhmmhiofbaa
open Go.RowKit Go.Sort
set_option linter.unusedVariables false
set_option linter.unusedSimpArgs false
set_option maxRecDepth 100000

theorem equal_s (n m : Nat) (xs ys : List Int) (hx : isB xs) (hy : isB ys) : Fn Try.prog 12 [.p (.sl n 1 (bs xs)), .p (.sl m 1 (bs ys))] (.p (.v (.bool (decide (xs = ys))))) [] := by
  have e : decide (xs = ys) = decide (strOfNums xs = strOfNums ys) := decide_eq_decide.2 ⟨fun h => by rw [h], nums_inj hx hy⟩
  rw [e]
  refine fn_intro Try.func12 rfl (Nat.le_of_ble_eq_true rfl) fun w0 A => ?_
  refine awp_seq ?_
  refine awp_text (by kernel_rfl) ?_
  (refine r_pure (a_assign (r := .p _)) rfl rfl ?_)
  refine arun_nil ?_
  refine awp_seq ?_
  refine awp_text (by kernel_rfl) ?_
  (refine r_pure (a_move (r := .p _)) rfl rfl ?_)
  (refine r_run (a_b2s Try.underlying22 Try.underlying5 Try.underlying9 (src_sl) rfl rfl) rfl rfl trivial ?_)
  (refine r_pure (a_move (r := .p _)) rfl rfl ?_)
  (refine r_run (a_b2s Try.underlying22 Try.underlying5 Try.underlying9 (src_sl) rfl rfl) rfl rfl trivial ?_)
  (refine r_pure a_seql rfl rfl ?_)
  (refine r_pure (a_assign (r := .p _)) rfl rfl ?_)
  refine arun_nil ?_
  refine awp_ret ?_
  refine ⟨(by first | exact .inl rfl | exact .inr rfl), _, (fun o => o), (.tmp _ _ _ _ rfl .nil), ?_, rfl, ?_, rfl⟩
  · exact rfl
  · exact trivial

def rightB (s : ByteArray) (b t : List Int) : Bool := decide (macE s b.length = 0 ∧ (macD s b).take 16 = t)
theorem xb_twice {a b : Int} (ha : 0 ≤ a ∧ a < 256) (hb : 0 ≤ b ∧ b < 256) : xb (xb a b) b = a := by
  show IntKind.u8.wrap ((BitVec.ofInt 8 (IntKind.u8.wrap ((BitVec.ofInt 8 a ^^^ BitVec.ofInt 8 b).toNat : Int)) ^^^ BitVec.ofInt 8 b).toNat : Int) = a
  have e : BitVec.ofInt 8 (IntKind.u8.wrap ((BitVec.ofInt 8 a ^^^ BitVec.ofInt 8 b).toNat : Int)) = BitVec.ofInt 8 a ^^^ BitVec.ofInt 8 b := by
    generalize BitVec.ofInt 8 a ^^^ BitVec.ofInt 8 b = v
    rw [IntKind.wrap_u8]
    have := v.isLt
    rw [Int.emod_eq_of_lt (by omega) (by omega), BitVec.ofInt_natCast, BitVec.ofNat_toNat, BitVec.setWidth_eq]
  rw [e, BitVec.xor_assoc, BitVec.xor_self, BitVec.xor_zero, IntKind.wrap_u8, BitVec.toNat_ofInt]
  omega
def opN (b : List Int) : Nat := b.length - 16
def openE (s : ByteArray) (c : Int) (b : List Int) : Int :=
  if 236 < b.length then 1 else if strE s c (opN b) ≠ 0 then strE s c (opN b) else if b.length < 16 then 8 else if (sealT s c (b.take (opN b))).take 16 = b.drop (opN b) then 0 else 9
def openD (s : ByteArray) (c : Int) (b : List Int) : List Int := mixD (b.take (opN b)) (strD s c (opN b))

theorem app_inj {a a' t t' : List Int} (h : a.length = a'.length) : a ++ t = a' ++ t' ↔ a = a' ∧ t = t' := ⟨fun e => List.append_inj e h, fun ⟨e, f⟩ => by rw [e, f]⟩
theorem mixD_twice {a b : List Int} (ha : isB a) (hb : isB b) (h : a.length = b.length) : mixD (mixD a b) b = a := by
  unfold mixD
  apply List.ext_getElem
  · simp; omega
  intro i h1 h2
  simp only [List.getElem_zipWith]
  exact xb_twice (ha _ (List.getElem_mem _)) (hb _ (List.getElem_mem _))

end Go.Proofs.Ytmdkfhmmhiofbaa
