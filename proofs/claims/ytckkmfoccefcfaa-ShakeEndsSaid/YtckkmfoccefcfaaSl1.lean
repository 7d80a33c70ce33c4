/- seal.Seal, its reference, and the law SealSeals, over data. -/
import Derived.Test.YtckkmfoccefcfaaSs3
namespace Go.Proofs.Ytckkmfoccefcfaa
open Go.RowKit Go.Sort
set_option linter.unusedVariables false
set_option linter.unusedSimpArgs false
set_option maxRecDepth 100000

theorem xb_comm (a b : Int) : xb a b = xb b a := by
  show IntKind.u8.wrap ((BitVec.ofInt 8 a ^^^ BitVec.ofInt 8 b).toNat : Int) = IntKind.u8.wrap ((BitVec.ofInt 8 b ^^^ BitVec.ofInt 8 a).toNat : Int)
  rw [BitVec.xor_comm]
def mixD (a b : List Int) : List Int := List.zipWith xb a b
theorem mixD_B (a b : List Int) : isB (mixD a b) := by
  intro x hx
  obtain ⟨i, hi, rfl⟩ := List.mem_iff_getElem.1 hx
  simp only [mixD, List.getElem_zipWith]
  exact xb_B _ _
theorem mixD_len {a b : List Int} {n : Nat} (ha : a.length = n) (hb : b.length = n) : (mixD a b).length = n := by simp [mixD, ha, hb]
/-- the first k done, behind them what was there -/
def mixK (a b z : List Int) (k : Nat) : List Int := (mixD a b).take k ++ z.drop k
theorem mixK_len {a b z : List Int} {n k : Nat} (ha : a.length = n) (hb : b.length = n) (hz : z.length = n) (hk : k ≤ n) : (mixK a b z k).length = n := by
  rw [mixK, List.length_append, List.length_take, List.length_drop, mixD_len ha hb]; omega
theorem mixK_step {a b z : List Int} {n k : Nat} {x y : Int} (ha : a.length = n) (hb : b.length = n) (hz : z.length = n) (hk : k < n) (hx : a[k]? = some x) (hy : b[k]? = some y) :
    (mixK a b z k)[k]? = z[k]? ∧ (mixK a b z k).set k (xb x y) = mixK a b z (k + 1) := by
  have hl := mixD_len ha hb
  have h1 : k < (mixD a b).length := by omega
  have e : (mixD a b)[k] = xb x y := by
    simp only [mixD, List.getElem_zipWith]
    rw [(List.getElem?_eq_some_iff.1 hx).2, (List.getElem?_eq_some_iff.1 hy).2]
  have h2 : ((mixD a b).take k).length = k := by rw [List.length_take]; omega
  constructor
  · rw [mixK, List.getElem?_append_right (by omega), h2, Nat.sub_self, List.getElem?_drop, Nat.add_zero]
  · rw [mixK, mixK, List.set_append_right _ _ (by omega), h2, Nat.sub_self, List.drop_eq_getElem_cons (by omega), List.set_cons_zero, List.take_succ_eq_append_getElem h1, e, List.append_assoc]
    rfl
theorem mixK_full {a b z : List Int} {n : Nat} (ha : a.length = n) (hb : b.length = n) (hz : z.length = n) : mixK a b z n = mixD a b := by
  rw [mixK, List.take_of_length_le (by rw [mixD_len ha hb]; omega), List.drop_of_length_le (by omega), List.append_nil]

set_option maxHeartbeats 1000000 in
theorem mixed_s (n : Nat) (a b : List Int) (ha : a.length = n) (hb : b.length = n) (hn : n ≤ 1000) : Fn Try.prog 110 [.p (.sl n 1 (bs a)), .p (.sl n 1 (bs b))] (.row 0) [(0, .row 5 1 n (bs (mixD a b)))] := by
  refine fn_intro Try.func110 rfl (Nat.le_of_ble_eq_true rfl) fun w0 A => ?_
  refine awp_seq ?_
  refine awp_text (by kernel_rfl) ?_
  (refine r_pure (a_assign (r := .p _)) rfl rfl ?_)
  refine arun_nil ?_
  refine awp_seq ?_
  refine awp_text (by kernel_rfl) ?_
  (refine r_pure (a_move (r := .p _)) rfl rfl ?_)
  (refine r_pure (a_lenS Try.underlying50) rfl rfl ?_)
  (refine r_run (a_make1 9 Try.underlying50 eo5 zr5 rfl (by omega) (by omega) (by omega) (by simp only [maxLen]; omega) (show _ = n by omega)) rfl rfl ⟨rfl, trivial⟩ ?_)
  (refine r_pure (a_assign (r := .row _)) rfl rfl ?_)
  refine arun_nil ?_
  refine awp_seq (awp_seq ?_)
  refine awp_text (by kernel_rfl) ?_
  (refine r_pure (a_move (r := .p _)) rfl rfl ?_)
  (refine r_pure (a_lenS Try.underlying50) rfl rfl ?_)
  (refine r_pure (a_move (r := .p _)) rfl rfl ?_)
  refine arun_nil ?_
  refine awp_block ?_
  have hz : (List.replicate n (0 : Int)).length = n := by simp
  have hz0 : bs (mixK a b (List.replicate n 0) 0) = List.replicate n (PV.v (.int .u8 0)) := by simp [mixK, bs]
  generalize List.replicate n (0 : Int) = z at hz hz0
  refine awp_loopR (fun m st => ∃ k : Nat, m + k = n ∧ st = St.of [(0, .p (.sl n 1 (bs a))), (1, .p (.sl n 1 (bs b))), (5, .row 5), (11, .p (.v (.int .i64 n))), (12, .p (.v (.int .i64 k)))] [(5, .row 5 1 n (bs (mixK a b z k)))]) n ?_ ?_
  · refine ⟨_, re_of (fun _ => 9) _ _ ?_ ?_ rfl, 0, by omega, rfl⟩
    · (repeat (first | exact trivial | (refine ⟨⟨(by first | rfl | (simp; done) | (simp; omega)), rfl⟩, ?_⟩)))
    · rw [hz0]
      exact ⟨⟨rfl, rfl⟩, trivial⟩
  rintro m st ⟨k, hk, rfl⟩
  refine awp_seq ?_
  refine awp_text (by kernel_rfl) ?_
  (refine r_pure a_lss rfl rfl ?_)
  refine arun_nil ?_
  refine awp_seq ?_
  refine awp_cond _ rfl (fun h => ?_) (fun h => ?_)
  · have hlt : k < n := by simp at h; omega
    clear h
    obtain ⟨x, hx⟩ : ∃ x, a[k]? = some x := ⟨a[k]'(by omega), List.getElem?_eq_getElem (by omega)⟩
    obtain ⟨y, hy⟩ : ∃ y, b[k]? = some y := ⟨b[k]'(by omega), List.getElem?_eq_getElem (by omega)⟩
    obtain ⟨g1, g2⟩ := mixK_step ha hb hz hlt hx hy
    have g3 := bs_at hx
    have g4 := bs_at hy
    have g5 : (bs (mixK a b z k)).length = n := by rw [bs_length]; exact mixK_len ha hb hz (by omega)
    have g6 : setR (bs (mixK a b z k)) k [.v (.int .u8 (xb x y))] = bs (mixK a b z (k + 1)) := by rw [bs_set (by rw [bs_length] at g5; omega), g2]
    refine awp_skip (awp_seq (awp_block (awp_seq ?_)))
    refine awp_text (by kernel_rfl) ?_
    (refine r_pure (a_move (r := .p _)) rfl rfl ?_)
    (refine r_pure (a_assign (r := .p _)) rfl rfl ?_)
    refine arun_nil ?_
    refine thn_n ?_
    refine awp_draw 6 (by kernel_rfl) ?_
    (refine r_pure (a_move (r := .row _)) rfl rfl ?_)
    (refine r_pure (a_move (r := .p _)) rfl rfl ?_)
    (refine r_pure (a_move (r := .p _)) rfl rfl ?_)
    (refine r_pure (a_move (r := .p _)) rfl rfl ?_)
    (refine r_pure (a_indexAddrS Try.underlying50 sz5 (by omega) (by omega) (by rw [Int.toNat_natCast, Nat.mul_one])) rfl rfl ?_)
    (refine r_pure (a_load1p Try.underlying5 rfl (by rw [List.getElem?_drop]; exact g3)) rfl rfl ?_)
    (refine r_pure (a_move (r := .p _)) rfl rfl ?_)
    (refine r_pure (a_move (r := .p _)) rfl rfl ?_)
    (refine r_pure (a_indexAddrS Try.underlying50 sz5 (by omega) (by omega) (by rw [Int.toNat_natCast, Nat.mul_one])) rfl rfl ?_)
    (refine r_pure (a_load1p Try.underlying5 rfl (by rw [List.getElem?_drop]; exact g4)) rfl rfl ?_)
    (refine r_pure (a_bits (by simp) (show _ = xb x y from rfl)) rfl rfl ?_)
    (refine r_run (a_indexAddrR Try.underlying50 sz5 (by omega) (by omega) (show _ = k by omega)) rfl rfl ⟨rfl, trivial⟩ ?_)
    (refine r_run (a_storeR (Y := .p _) sz5 rfl rfl (by first | rfl | omega) (by first | omega | (simp; done) | (simp; omega)) g6) rfl rfl ⟨rfl, trivial⟩ ?_)
    refine arun_nil ⟨by kernel_rfl, ?_⟩
    refine inb_n (thn_n ?_)
    refine awp_text (by kernel_rfl) ?_
    (refine r_pure (a_add (by first | exact IntWalk.i64_in _ (by omega) | rfl)) rfl rfl ?_)
    (refine r_pure (a_move (r := .p _)) rfl rfl ?_)
    refine arun_nil ?_
    refine thn_n ?_
    refine ⟨m - 1, by omega, _, re_of id _ _ ?_ ?_ rfl, k + 1, by omega, rfl⟩
    · (repeat (first | exact trivial | (refine ⟨⟨(by first | rfl | (simp; done) | (simp; omega)), rfl⟩, ?_⟩)))
    · exact ⟨⟨rfl, rfl⟩, trivial⟩
  have hge : k = n := by simp at h; omega
  clear h
  subst hge
  rw [mixK_full ha hb hz]
  refine awp_exit (awp_seq ?_)
  refine awp_text (by kernel_rfl) ?_
  (refine r_pure (a_move (r := .row _)) rfl rfl ?_)
  (refine r_pure (a_assign (r := .row _)) rfl rfl ?_)
  refine arun_nil ?_
  refine awp_ret ?_
  refine ⟨(by first | exact .inl rfl | exact .inr rfl), _, (fun _ => 5), (.tmp _ _ _ _ rfl .nil), ?_, rfl, ?_, rfl⟩
  · exact rfl
  · exact ⟨⟨rfl, rfl⟩, trivial⟩

def SEAL : List Int := [115, 101, 97, 108]
theorem SEAL_B : isB SEAL := by intro x hx; simp [SEAL] at hx; omega
set_option maxHeartbeats 1000000 in
theorem signed_s (c n : Nat) (b : List Int) (hb : b.length = n) (hn : n ≤ 1000) : Fn Try.prog 111 [.p (.v (.int .i64 c)), .p (.sl n 1 (bs b))] (.row 0) [(0, .row 5 1 (12 + n) (bs (SEAL ++ be8 c ++ b)))] := by
  refine fn_intro Try.func111 rfl (Nat.le_of_ble_eq_true rfl) fun w0 A => ?_
  refine awp_seq ?_
  refine awp_text (by kernel_rfl) ?_
  (refine r_pure (a_assign (r := .p _)) rfl rfl ?_)
  refine arun_nil ?_
  refine awp_seq ?_
  refine awp_text (by kernel_rfl) ?_
  (refine r_run (xs := ((bs SEAL).map AV.p)) (a_buildSlice (es := ((bs SEAL).map AV.p)) (cs := (bs SEAL)) 5 Try.underlying50 sz5 zc5 (Nat.le_of_ble_eq_true rfl) (Nat.le_of_ble_eq_true rfl) rfl (by kernel_rfl) (by kernel_rfl) (by kernel_rfl) (Nat.le_of_ble_eq_true rfl)) (by first | rfl | kernel_rfl) rfl ⟨rfl, trivial⟩ ?_)
  (refine r_run (a_convRow Try.underlying50 Try.underlying5 (by omega)) rfl rfl ⟨rfl, trivial⟩ ?_)
  (refine r_pure (a_move (r := .p _)) rfl rfl ?_)
  (refine r_callV (fun n => 8 + 1000 * n) (number_s c) rfl rfl Try.func128 rfl rfl (by first | rfl | simp [AV.noSl, AV.noSlL, AObj.noSl, PV.isV, bs_noSl]) (by first | rfl | simp [AV.noSl, AV.noSlL, AObj.noSl, PV.isV, bs_noSl]) rfl rfl rfl (by first | exact trivial | exact ⟨rfl, trivial⟩ | exact ⟨rfl, rfl, trivial⟩) rfl rfl rfl ?_)
  (refine r_run (a_append 9 Try.underlying50 eo5 (src_row) (by simp only [maxLen]; omega) (by omega) rfl rfl) rfl rfl ⟨rfl, rfl, rfl, trivial⟩ ?_)
  (refine r_pure (a_move (r := .p _)) rfl rfl ?_)
  (refine r_run (a_append 11 Try.underlying50 eo5 (src_sl) (by simp only [maxLen]; omega) (by omega) rfl rfl) rfl rfl ⟨rfl, rfl, trivial⟩ ?_)
  (refine r_pure (a_assign (r := .row _)) rfl rfl ?_)
  refine arun_nil ?_
  refine awp_ret ?_
  rw [← bs_appd, ← bs_appd]
  refine ⟨(by first | exact .inl rfl | exact .inr rfl), _, (fun _ => 11), (.tmp _ _ _ _ rfl .nil), ?_, rfl, ?_, rfl⟩
  · exact rfl
  · exact ⟨⟨rfl, rfl⟩, trivial⟩
end Go.Proofs.Ytckkmfoccefcfaa
