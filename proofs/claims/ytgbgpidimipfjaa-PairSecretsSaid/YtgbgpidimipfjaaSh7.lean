/- The reference's compressed, over data. -/
import Derived.Test.YtgbgpidimipfjaaSh6
namespace Go.Proofs.Ytgbgpidimipfjaa
open Go.RowKit Go.Sort
set_option linter.unusedVariables false
set_option linter.unusedSimpArgs false
set_option maxRecDepth 100000

theorem ofInt_wrap (x : BitVec 32) : BitVec.ofInt 32 (IntKind.u32.wrap (x.toNat : Int)) = x := by
  rw [IntWalk.u32_in _ (by have := x.isLt; omega), BitVec.ofInt_natCast, BitVec.ofNat_toNat, BitVec.setWidth_eq]
theorem bx (a b : Int) : bits .xor .u32 a b = IntKind.u32.wrap ((BitVec.ofInt 32 a ^^^ BitVec.ofInt 32 b).toNat : Int) := rfl
theorem ba (a b : Int) : bits .and .u32 a b = IntKind.u32.wrap ((BitVec.ofInt 32 a &&& BitVec.ofInt 32 b).toNat : Int) := rfl
theorem bo (a b : Int) : bits .or .u32 a b = IntKind.u32.wrap ((BitVec.ofInt 32 a ||| BitVec.ofInt 32 b).toNat : Int) := rfl
theorem chR (e f g : Int) : bits .xor .u32 g (bits .and .u32 e (bits .xor .u32 f g)) = ch e f g := by
  have hm : BitVec.ofInt 32 (if IntKind.u32.signed then -1 else IntKind.u32.max) = BitVec.allOnes 32 := by decide
  unfold ch xr an nt
  simp only [bx, ba, ofInt_wrap, hm]
  congr 2
  apply congrArg
  apply BitVec.eq_of_getLsbD_eq
  intro i hi
  simp only [BitVec.getLsbD_xor, BitVec.getLsbD_and, BitVec.getLsbD_allOnes, hi, decide_true]
  cases (BitVec.ofInt 32 e).getLsbD i <;> cases (BitVec.ofInt 32 f).getLsbD i <;> cases (BitVec.ofInt 32 g).getLsbD i <;> rfl
theorem mjR (a b c : Int) : bits .or .u32 (bits .and .u32 a b) (bits .and .u32 c (bits .or .u32 a b)) = mj a b c := by
  unfold mj xr an
  simp only [bx, ba, bo, ofInt_wrap]
  congr 2
  apply congrArg
  apply BitVec.eq_of_getLsbD_eq
  intro i hi
  simp only [BitVec.getLsbD_xor, BitVec.getLsbD_and, BitVec.getLsbD_or]
  cases (BitVec.ofInt 32 a).getLsbD i <;> cases (BitVec.ofInt 32 b).getLsbD i <;> cases (BitVec.ofInt 32 c).getLsbD i <;> rfl
theorem ad_comm (a b : Int) : ad a b = ad b a := by unfold ad; rw [Int.add_comm]
theorem pu_getD {xs : List Int} {i : Nat} (h : i < xs.length) : (pu xs)[i]? = some (.v (.int .u32 (xs.getD i 0))) :=
  pu_at (by rw [List.getD_eq_getElem?_getD, List.getElem?_eq_getElem h]; rfl)
/-- a row is the whole of itself -/
theorem re_rowpsl {st : St} (t : Nat) {o n size : Nat} {e : TypeId} {cs : List PV} (ht : st.tmps t = .row o) (ho : st.heap o = .live (.row e size n cs)) : Re st (st.put (some t) (.psl o 0 n size)) := by
  rintro w0 A nt a w ⟨⟨S, m, hm, hj, hr⟩, hsz, hd⟩
  refine ⟨⟨S, m, by rw [put_heap]; exact hm, hj, fun t' => ?_⟩, hsz, hd⟩
  by_cases e1 : t' = t
  · subst e1
    have h1 := hr t'
    rw [ht] at h1
    simp only [Rep] at h1
    obtain ⟨v, h2, h3, h4⟩ := hm.live o _ ho
    rw [h1.1] at h2
    cases h2
    simp only [St.put, Nat.beq_refl, cond_true, Rep]
    obtain ⟨us, _, _, h5⟩ := h3
    rcases h5 with ⟨h6, h7⟩ | ⟨g, cap, cur, fz, h6, _, _, _, h7, _⟩
    · subst h7
      exact ⟨none, 0, h6, Nat.le_refl _, .inl rfl⟩
    · exact ⟨some ⟨g, 0, none⟩, cap, h6, h7, .inr ⟨g, _, h1.1, by rw [h6]; rfl, rfl⟩⟩
  · have hb : Nat.beq t' t = false := nbeq e1
    simp only [St.put, hb, cond_false]
    exact hr t'

set_option maxHeartbeats 2000000 in
theorem compr_s (v0 : V8) (xs : List Int) : Fn Try.prog 59 [.p (.sl 8 1 (pu v0.l)), .p (.sl 16 1 (pu (wp xs 64))), .p (.sl 64 1 (pu RK))] (.row 0) [(0, .row 23 1 8 (pu (blk8 v0 xs).l))] := by
  have hW := wp_len xs 64
  unfold blk8 wds
  generalize wp xs 64 = W at hW ⊢
  refine fn_intro Try.func59 rfl (Nat.le_of_ble_eq_true rfl) fun w0 A => ?_
  refine awp_seq ?_
  refine awp_text (by kernel_rfl) ?_
  (refine r_pure (a_assign (r := .p _)) rfl rfl ?_)
  refine arun_nil ?_
  refine awp_seq ?_
  refine awp_text (by kernel_rfl) ?_
  (refine r_run (a_buildSlice0 22 Try.underlying72 sz23) rfl rfl ⟨rfl, trivial⟩ ?_)
  (refine r_pure (a_move (r := .p _)) rfl rfl ?_)
  (refine r_run (a_append 24 Try.underlying72 eo23 (src_sl) (by simp only [maxLen]; omega) (by omega) rfl rfl) rfl rfl ⟨rfl, rfl, trivial⟩ ?_)
  (refine r_pure (a_assign (r := .row _)) rfl rfl ?_)
  refine arun_nil ?_
  refine awp_seq (awp_block ?_)
  refine awp_loopR (fun m st => ∃ k : Nat, m + k = 48 ∧ st = St.of [(0, .p (.sl 8 1 (pu v0.l))), (2, .p (.sl 64 1 (pu RK))), (7, .row 7)] [(7, .row 23 1 (16 + k) (pu (ext W k)))]) 48 ?_ ?_
  · refine ⟨_, re_of (fun _ => 24) _ _ ?_ ?_ rfl, 0, by omega, rfl⟩
    · (repeat (first | exact trivial | (refine ⟨⟨(by first | rfl | (simp; done) | (simp; omega)), rfl⟩, ?_⟩)))
    · exact ⟨⟨rfl, rfl⟩, trivial⟩
  rintro m st ⟨k, hk, rfl⟩
  refine awp_seq (awp_seq ?_)
  refine awp_text (by kernel_rfl) ?_
  (refine r_pure (a_move (r := .row _)) rfl rfl ?_)
  (refine r_run (a_lenR Try.underlying72) rfl rfl ⟨rfl, trivial⟩ ?_)
  (refine r_pure a_lss rfl rfl ?_)
  refine arun_nil ?_
  refine thn_n ?_
  refine awp_cond _ rfl (fun h => ?_) (fun h => ?_)
  · have hlt : k < 48 := by simp at h; omega
    clear h
    have hel := ext_len hW k
    have g15 := pu_getD (xs := ext W k) (i := 16 + k - 15) (by omega)
    have g16 := pu_getD (xs := ext W k) (i := 16 + k - 16) (by omega)
    have g7 := pu_getD (xs := ext W k) (i := 16 + k - 7) (by omega)
    have g2 := pu_getD (xs := ext W k) (i := 16 + k - 2) (by omega)
    have hnx : pu (ext W (k + 1)) = pu (ext W k) ++ [.v (.int .u32 (nx (ext W k) (16 + k)))] := by rw [pu_push]; rfl
    refine awp_skip (awp_block (awp_seq ?_))
    refine awp_text (by kernel_rfl) ?_
    (refine r_pure (a_move (r := .row _)) rfl rfl ?_)
    (refine r_run (a_lenR Try.underlying72) rfl rfl ⟨rfl, trivial⟩ ?_)
    (refine r_pure (a_assign (r := .p _)) rfl rfl ?_)
    refine arun_nil ?_
    refine awp_seq ?_
    refine awp_draw 4 (by kernel_rfl) ?_
    (refine r_pure (a_move (r := .row _)) rfl rfl ?_)
    (refine r_pure (a_move (r := .p _)) rfl rfl ?_)
    (refine r_pure (a_sub (by first | exact IntWalk.i64_in _ (by omega) | rfl)) rfl rfl ?_)
    (refine r_run (a_indexAddrR Try.underlying72 sz23 (by omega) (by omega) (show _ = 16 + k - 15 by omega)) rfl rfl ⟨rfl, trivial⟩ ?_)
    (refine r_run (a_load1r Try.underlying23 rfl g15) rfl rfl ⟨rfl, trivial⟩ ?_)
    (refine r_callV (fun n => 35 + 1000 * n) (rotated_s _ _) rfl rfl Try.func83 rfl rfl (by first | rfl | simp [AV.noSl, AV.noSlL, AObj.noSl, PV.isV, bs_noSl]) (by first | rfl | simp [AV.noSl, AV.noSlL, AObj.noSl, PV.isV, bs_noSl]) rfl rfl rfl (by first | exact trivial | exact ⟨rfl, trivial⟩ | exact ⟨rfl, rfl, trivial⟩) rfl rfl rfl ?_)
    (refine r_pure (a_move (r := .row _)) rfl rfl ?_)
    (refine r_pure (a_move (r := .p _)) rfl rfl ?_)
    (refine r_pure (a_sub (by first | exact IntWalk.i64_in _ (by omega) | rfl)) rfl rfl ?_)
    (refine r_run (a_indexAddrR Try.underlying72 sz23 (by omega) (by omega) (show _ = 16 + k - 15 by omega)) rfl rfl ⟨rfl, trivial⟩ ?_)
    (refine r_run (a_load1r Try.underlying23 rfl g15) rfl rfl ⟨rfl, trivial⟩ ?_)
    (refine r_callV (fun n => 41 + 1000 * n) (rotated_s _ _) rfl rfl Try.func83 rfl rfl (by first | rfl | simp [AV.noSl, AV.noSlL, AObj.noSl, PV.isV, bs_noSl]) (by first | rfl | simp [AV.noSl, AV.noSlL, AObj.noSl, PV.isV, bs_noSl]) rfl rfl rfl (by first | exact trivial | exact ⟨rfl, trivial⟩ | exact ⟨rfl, rfl, trivial⟩) rfl rfl rfl ?_)
    (refine r_pure (a_bits (by simp) rfl) rfl rfl ?_)
    (refine r_pure (a_move (r := .row _)) rfl rfl ?_)
    (refine r_pure (a_move (r := .p _)) rfl rfl ?_)
    (refine r_pure (a_sub (by first | exact IntWalk.i64_in _ (by omega) | rfl)) rfl rfl ?_)
    (refine r_run (a_indexAddrR Try.underlying72 sz23 (by omega) (by omega) (show _ = 16 + k - 15 by omega)) rfl rfl ⟨rfl, trivial⟩ ?_)
    (refine r_run (a_load1r Try.underlying23 rfl g15) rfl rfl ⟨rfl, trivial⟩ ?_)
    (refine r_pure (a_shr (by omega) rfl) rfl rfl ?_)
    (refine r_pure (a_bits (by simp) (show _ = s0 _ from rfl)) rfl rfl ?_)
    (refine r_pure (a_assign (r := .p _)) rfl rfl ?_)
    refine arun_nil ⟨by kernel_rfl, ?_⟩
    refine awp_seq ?_
    refine awp_draw 4 (by kernel_rfl) ?_
    (refine r_pure (a_move (r := .row _)) rfl rfl ?_)
    (refine r_pure (a_move (r := .p _)) rfl rfl ?_)
    (refine r_pure (a_sub (by first | exact IntWalk.i64_in _ (by omega) | rfl)) rfl rfl ?_)
    (refine r_run (a_indexAddrR Try.underlying72 sz23 (by omega) (by omega) (show _ = 16 + k - 2 by omega)) rfl rfl ⟨rfl, trivial⟩ ?_)
    (refine r_run (a_load1r Try.underlying23 rfl g2) rfl rfl ⟨rfl, trivial⟩ ?_)
    (refine r_callV (fun n => 55 + 1000 * n) (rotated_s _ _) rfl rfl Try.func83 rfl rfl (by first | rfl | simp [AV.noSl, AV.noSlL, AObj.noSl, PV.isV, bs_noSl]) (by first | rfl | simp [AV.noSl, AV.noSlL, AObj.noSl, PV.isV, bs_noSl]) rfl rfl rfl (by first | exact trivial | exact ⟨rfl, trivial⟩ | exact ⟨rfl, rfl, trivial⟩) rfl rfl rfl ?_)
    (refine r_pure (a_move (r := .row _)) rfl rfl ?_)
    (refine r_pure (a_move (r := .p _)) rfl rfl ?_)
    (refine r_pure (a_sub (by first | exact IntWalk.i64_in _ (by omega) | rfl)) rfl rfl ?_)
    (refine r_run (a_indexAddrR Try.underlying72 sz23 (by omega) (by omega) (show _ = 16 + k - 2 by omega)) rfl rfl ⟨rfl, trivial⟩ ?_)
    (refine r_run (a_load1r Try.underlying23 rfl g2) rfl rfl ⟨rfl, trivial⟩ ?_)
    (refine r_callV (fun n => 61 + 1000 * n) (rotated_s _ _) rfl rfl Try.func83 rfl rfl (by first | rfl | simp [AV.noSl, AV.noSlL, AObj.noSl, PV.isV, bs_noSl]) (by first | rfl | simp [AV.noSl, AV.noSlL, AObj.noSl, PV.isV, bs_noSl]) rfl rfl rfl (by first | exact trivial | exact ⟨rfl, trivial⟩ | exact ⟨rfl, rfl, trivial⟩) rfl rfl rfl ?_)
    (refine r_pure (a_bits (by simp) rfl) rfl rfl ?_)
    (refine r_pure (a_move (r := .row _)) rfl rfl ?_)
    (refine r_pure (a_move (r := .p _)) rfl rfl ?_)
    (refine r_pure (a_sub (by first | exact IntWalk.i64_in _ (by omega) | rfl)) rfl rfl ?_)
    (refine r_run (a_indexAddrR Try.underlying72 sz23 (by omega) (by omega) (show _ = 16 + k - 2 by omega)) rfl rfl ⟨rfl, trivial⟩ ?_)
    (refine r_run (a_load1r Try.underlying23 rfl g2) rfl rfl ⟨rfl, trivial⟩ ?_)
    (refine r_pure (a_shr (by omega) rfl) rfl rfl ?_)
    (refine r_pure (a_bits (by simp) (show _ = s1 _ from rfl)) rfl rfl ?_)
    (refine r_pure (a_assign (r := .p _)) rfl rfl ?_)
    refine arun_nil ⟨by kernel_rfl, ?_⟩
    refine thn_n ?_
    refine awp_draw 7 (by kernel_rfl) ?_
    (refine r_pure (a_move (r := .row _)) rfl rfl ?_)
    (refine r_pure (a_move (r := .row _)) rfl rfl ?_)
    (refine r_pure (a_move (r := .p _)) rfl rfl ?_)
    (refine r_pure (a_sub (by first | exact IntWalk.i64_in _ (by omega) | rfl)) rfl rfl ?_)
    (refine r_run (a_indexAddrR Try.underlying72 sz23 (by omega) (by omega) (show _ = 16 + k - 16 by omega)) rfl rfl ⟨rfl, trivial⟩ ?_)
    (refine r_run (a_load1r Try.underlying23 rfl g16) rfl rfl ⟨rfl, trivial⟩ ?_)
    (refine r_pure (a_move (r := .p _)) rfl rfl ?_)
    (refine r_pure (a_add (by first | exact IntWalk.u32_in _ (by omega) | rfl)) rfl rfl ?_)
    (refine r_pure (a_move (r := .row _)) rfl rfl ?_)
    (refine r_pure (a_move (r := .p _)) rfl rfl ?_)
    (refine r_pure (a_sub (by first | exact IntWalk.i64_in _ (by omega) | rfl)) rfl rfl ?_)
    (refine r_run (a_indexAddrR Try.underlying72 sz23 (by omega) (by omega) (show _ = 16 + k - 7 by omega)) rfl rfl ⟨rfl, trivial⟩ ?_)
    (refine r_run (a_load1r Try.underlying23 rfl g7) rfl rfl ⟨rfl, trivial⟩ ?_)
    (refine r_pure (a_add (by first | exact IntWalk.u32_in _ (by omega) | rfl)) rfl rfl ?_)
    (refine r_pure (a_move (r := .p _)) rfl rfl ?_)
    (refine r_pure (a_add (show _ = nx (ext W k) (16 + k) from rfl)) rfl rfl ?_)
    (refine r_run (xs := [.p (.v (.int .u32 (nx (ext W k) (16 + k))))]) (a_buildSlice (es := [.p (.v (.int .u32 (nx (ext W k) (16 + k))))]) (cs := [.v (.int .u32 (nx (ext W k) (16 + k)))]) 86 Try.underlying72 sz23 zc23 (Nat.le_of_ble_eq_true rfl) (Nat.le_of_ble_eq_true rfl) rfl (by kernel_rfl) (by kernel_rfl) (by kernel_rfl) (Nat.le_of_ble_eq_true rfl)) (by first | rfl | kernel_rfl) rfl ⟨rfl, trivial⟩ ?_)
    (refine r_run (a_append 87 Try.underlying72 eo23 (src_row) (by simp only [maxLen]; omega) (by omega) rfl rfl) rfl rfl ⟨rfl, rfl, rfl, trivial⟩ ?_)
    (refine r_pure (a_assign (r := .row _)) rfl rfl ?_)
    refine arun_nil ⟨by kernel_rfl, ?_⟩
    refine inb_n (thn_n ?_)
    refine ⟨m - 1, by omega, _, re_of (fun _ => 87) _ _ ?_ ?_ rfl, k + 1, by omega, rfl⟩
    · (repeat (first | exact trivial | (refine ⟨⟨(by first | rfl | (simp; done) | (simp; omega)), rfl⟩, ?_⟩)))
    · rw [hnx]
      exact ⟨⟨rfl, rfl⟩, trivial⟩
  have hge : k = 48 := by simp at h; omega
  clear h
  subst hge
  have hWl := ext_len hW 48
  generalize ext W 48 = W2 at hWl ⊢
  refine awp_exit (awp_seq ?_)
  refine awp_draw 4 (by kernel_rfl) ?_
  (refine r_pure (a_move (r := .p _)) rfl rfl ?_)
  (refine r_pure (a_indexAddrS Try.underlying72 sz23 (by omega) (by omega) rfl) rfl rfl ?_)
  (refine r_pure (a_load1p Try.underlying23 rfl (by first | rfl | assumption | ((try simp only [List.getElem?_drop, List.getElem?_take, Int.toNat_natCast, Nat.mul_one, Nat.add_zero, Nat.zero_add]); first | assumption | rfl))) rfl rfl ?_)
  (refine r_pure (a_move (r := .p _)) rfl rfl ?_)
  (refine r_pure (a_indexAddrS Try.underlying72 sz23 (by omega) (by omega) rfl) rfl rfl ?_)
  (refine r_pure (a_load1p Try.underlying23 rfl (by first | rfl | assumption | ((try simp only [List.getElem?_drop, List.getElem?_take, Int.toNat_natCast, Nat.mul_one, Nat.add_zero, Nat.zero_add]); first | assumption | rfl))) rfl rfl ?_)
  (refine r_pure (a_move (r := .p _)) rfl rfl ?_)
  (refine r_pure (a_indexAddrS Try.underlying72 sz23 (by omega) (by omega) rfl) rfl rfl ?_)
  (refine r_pure (a_load1p Try.underlying23 rfl (by first | rfl | assumption | ((try simp only [List.getElem?_drop, List.getElem?_take, Int.toNat_natCast, Nat.mul_one, Nat.add_zero, Nat.zero_add]); first | assumption | rfl))) rfl rfl ?_)
  (refine r_pure (a_move (r := .p _)) rfl rfl ?_)
  (refine r_pure (a_indexAddrS Try.underlying72 sz23 (by omega) (by omega) rfl) rfl rfl ?_)
  (refine r_pure (a_load1p Try.underlying23 rfl (by first | rfl | assumption | ((try simp only [List.getElem?_drop, List.getElem?_take, Int.toNat_natCast, Nat.mul_one, Nat.add_zero, Nat.zero_add]); first | assumption | rfl))) rfl rfl ?_)
  (refine r_pure (a_move (r := .p _)) rfl rfl ?_)
  (refine r_pure (a_indexAddrS Try.underlying72 sz23 (by omega) (by omega) rfl) rfl rfl ?_)
  (refine r_pure (a_load1p Try.underlying23 rfl (by first | rfl | assumption | ((try simp only [List.getElem?_drop, List.getElem?_take, Int.toNat_natCast, Nat.mul_one, Nat.add_zero, Nat.zero_add]); first | assumption | rfl))) rfl rfl ?_)
  (refine r_pure (a_move (r := .p _)) rfl rfl ?_)
  (refine r_pure (a_indexAddrS Try.underlying72 sz23 (by omega) (by omega) rfl) rfl rfl ?_)
  (refine r_pure (a_load1p Try.underlying23 rfl (by first | rfl | assumption | ((try simp only [List.getElem?_drop, List.getElem?_take, Int.toNat_natCast, Nat.mul_one, Nat.add_zero, Nat.zero_add]); first | assumption | rfl))) rfl rfl ?_)
  (refine r_pure (a_move (r := .p _)) rfl rfl ?_)
  (refine r_pure (a_indexAddrS Try.underlying72 sz23 (by omega) (by omega) rfl) rfl rfl ?_)
  (refine r_pure (a_load1p Try.underlying23 rfl (by first | rfl | assumption | ((try simp only [List.getElem?_drop, List.getElem?_take, Int.toNat_natCast, Nat.mul_one, Nat.add_zero, Nat.zero_add]); first | assumption | rfl))) rfl rfl ?_)
  (refine r_pure (a_move (r := .p _)) rfl rfl ?_)
  (refine r_pure (a_indexAddrS Try.underlying72 sz23 (by omega) (by omega) rfl) rfl rfl ?_)
  (refine r_pure (a_load1p Try.underlying23 rfl (by first | rfl | assumption | ((try simp only [List.getElem?_drop, List.getElem?_take, Int.toNat_natCast, Nat.mul_one, Nat.add_zero, Nat.zero_add]); first | assumption | rfl))) rfl rfl ?_)
  (refine r_pure (a_assign (r := .p _)) rfl rfl ?_)
  (refine r_pure (a_assign (r := .p _)) rfl rfl ?_)
  (refine r_pure (a_assign (r := .p _)) rfl rfl ?_)
  (refine r_pure (a_assign (r := .p _)) rfl rfl ?_)
  (refine r_pure (a_assign (r := .p _)) rfl rfl ?_)
  (refine r_pure (a_assign (r := .p _)) rfl rfl ?_)
  (refine r_pure (a_assign (r := .p _)) rfl rfl ?_)
  (refine r_pure (a_assign (r := .p _)) rfl rfl ?_)
  refine arun_nil ⟨by kernel_rfl, ?_⟩
  refine awp_seq (awp_seq ?_)
  refine awp_text (by kernel_rfl) ?_
  (refine r_pure (a_assign (r := .p _)) rfl rfl ?_)
  refine arun_nil ?_
  refine awp_block ?_
  refine awp_loopR (fun m st => ∃ k : Nat, m + k = 64 ∧ st = St.of [(0, .p (.sl 8 1 (pu v0.l))), (2, .p (.sl 64 1 (pu RK))), (7, .row 7), (11, .p (.v (.int .u32 (rn RK W2 v0 k).a))), (12, .p (.v (.int .u32 (rn RK W2 v0 k).b))), (13, .p (.v (.int .u32 (rn RK W2 v0 k).c))), (14, .p (.v (.int .u32 (rn RK W2 v0 k).d))), (15, .p (.v (.int .u32 (rn RK W2 v0 k).e))), (16, .p (.v (.int .u32 (rn RK W2 v0 k).f))), (17, .p (.v (.int .u32 (rn RK W2 v0 k).g))), (18, .p (.v (.int .u32 (rn RK W2 v0 k).h))), (19, .p (.v (.int .i64 k)))] [(7, .row 23 1 64 (pu W2))]) 64 ?_ ?_
  · refine ⟨_, re_of id _ _ ?_ ?_ rfl, 0, by omega, rfl⟩
    · (repeat (first | exact trivial | (refine ⟨⟨(by first | rfl | (simp; done) | (simp; omega)), rfl⟩, ?_⟩)))
    · exact ⟨⟨rfl, rfl⟩, trivial⟩
  rintro m st ⟨k, hk, rfl⟩
  refine awp_seq (awp_seq ?_)
  refine awp_text (by kernel_rfl) ?_
  (refine r_pure (a_move (r := .p _)) rfl rfl ?_)
  (refine r_pure a_lss rfl rfl ?_)
  refine arun_nil ?_
  refine thn_n ?_
  refine awp_cond _ rfl (fun h => ?_) (fun h => ?_)
  · have hlt : k < 64 := by simp at h; omega
    clear h
    have gk := pu_getD (xs := RK) (i := k) hlt
    have gw := pu_getD (xs := W2) (i := k) (by omega)
    have hs : rn RK W2 v0 (k + 1) = rnd (RK.getD k 0) (W2.getD k 0) (rn RK W2 v0 k) := rfl
    generalize rn RK W2 v0 k = v at hs ⊢
    generalize RK.getD k 0 = ck at gk hs
    generalize W2.getD k 0 = wk at gw hs
    refine awp_skip (awp_seq (awp_block (awp_seq ?_)))
    refine awp_draw 4 (by kernel_rfl) ?_
    (refine r_pure (a_move (r := .p _)) rfl rfl ?_)
    (refine r_pure (a_move (r := .p _)) rfl rfl ?_)
    (refine r_callV (fun n => 118 + 1000 * n) (rotated_s _ _) rfl rfl Try.func83 rfl rfl (by first | rfl | simp [AV.noSl, AV.noSlL, AObj.noSl, PV.isV, bs_noSl]) (by first | rfl | simp [AV.noSl, AV.noSlL, AObj.noSl, PV.isV, bs_noSl]) rfl rfl rfl (by first | exact trivial | exact ⟨rfl, trivial⟩ | exact ⟨rfl, rfl, trivial⟩) rfl rfl rfl ?_)
    (refine r_pure (a_move (r := .p _)) rfl rfl ?_)
    (refine r_callV (fun n => 120 + 1000 * n) (rotated_s _ _) rfl rfl Try.func83 rfl rfl (by first | rfl | simp [AV.noSl, AV.noSlL, AObj.noSl, PV.isV, bs_noSl]) (by first | rfl | simp [AV.noSl, AV.noSlL, AObj.noSl, PV.isV, bs_noSl]) rfl rfl rfl (by first | exact trivial | exact ⟨rfl, trivial⟩ | exact ⟨rfl, rfl, trivial⟩) rfl rfl rfl ?_)
    (refine r_pure (a_bits (by simp) rfl) rfl rfl ?_)
    (refine r_pure (a_move (r := .p _)) rfl rfl ?_)
    (refine r_callV (fun n => 123 + 1000 * n) (rotated_s _ _) rfl rfl Try.func83 rfl rfl (by first | rfl | simp [AV.noSl, AV.noSlL, AObj.noSl, PV.isV, bs_noSl]) (by first | rfl | simp [AV.noSl, AV.noSlL, AObj.noSl, PV.isV, bs_noSl]) rfl rfl rfl (by first | exact trivial | exact ⟨rfl, trivial⟩ | exact ⟨rfl, rfl, trivial⟩) rfl rfl rfl ?_)
    (refine r_pure (a_bits (by simp) rfl) rfl rfl ?_)
    (refine r_pure (a_add (by first | exact IntWalk.u32_in _ (by omega) | rfl)) rfl rfl ?_)
    (refine r_pure (a_move (r := .p _)) rfl rfl ?_)
    (refine r_pure (a_move (r := .p _)) rfl rfl ?_)
    (refine r_pure (a_move (r := .p _)) rfl rfl ?_)
    (refine r_pure (a_move (r := .p _)) rfl rfl ?_)
    (refine r_pure (a_bits (by simp) rfl) rfl rfl ?_)
    (refine r_pure (a_bits (by simp) rfl) rfl rfl ?_)
    (refine r_pure (a_bits (by simp) (chR _ _ _)) rfl rfl ?_)
    (refine r_pure (a_add (by first | exact IntWalk.u32_in _ (by omega) | rfl)) rfl rfl ?_)
    (refine r_pure (a_move (r := .p _)) rfl rfl ?_)
    (refine r_pure (a_move (r := .p _)) rfl rfl ?_)
    (refine r_pure (a_indexAddrS Try.underlying72 sz23 (by omega) (by omega) (by rw [Int.toNat_natCast, Nat.mul_one])) rfl rfl ?_)
    (refine r_pure (a_load1p Try.underlying23 rfl (by rw [List.getElem?_drop]; exact gk)) rfl rfl ?_)
    (refine r_pure (a_add (by first | exact IntWalk.u32_in _ (by omega) | rfl)) rfl rfl ?_)
    (refine r_pure (a_move (r := .row _)) rfl rfl ?_)
    (refine r_pure (a_move (r := .p _)) rfl rfl ?_)
    (refine r_run (a_indexAddrR Try.underlying72 sz23 (by omega) (by omega) (show _ = k by omega)) rfl rfl ⟨rfl, trivial⟩ ?_)
    (refine r_run (a_load1r Try.underlying23 rfl gw) rfl rfl ⟨rfl, trivial⟩ ?_)
    (refine r_pure (a_add (show _ = one ck wk v from rfl)) rfl rfl ?_)
    (refine r_pure (a_assign (r := .p _)) rfl rfl ?_)
    refine arun_nil ⟨by kernel_rfl, ?_⟩
    refine awp_seq ?_
    refine awp_text (by kernel_rfl) ?_
    (refine r_pure (a_move (r := .p _)) rfl rfl ?_)
    (refine r_callV (fun n => 145 + 1000 * n) (rotated_s _ _) rfl rfl Try.func83 rfl rfl (by first | rfl | simp [AV.noSl, AV.noSlL, AObj.noSl, PV.isV, bs_noSl]) (by first | rfl | simp [AV.noSl, AV.noSlL, AObj.noSl, PV.isV, bs_noSl]) rfl rfl rfl (by first | exact trivial | exact ⟨rfl, trivial⟩ | exact ⟨rfl, rfl, trivial⟩) rfl rfl rfl ?_)
    (refine r_pure (a_move (r := .p _)) rfl rfl ?_)
    (refine r_callV (fun n => 147 + 1000 * n) (rotated_s _ _) rfl rfl Try.func83 rfl rfl (by first | rfl | simp [AV.noSl, AV.noSlL, AObj.noSl, PV.isV, bs_noSl]) (by first | rfl | simp [AV.noSl, AV.noSlL, AObj.noSl, PV.isV, bs_noSl]) rfl rfl rfl (by first | exact trivial | exact ⟨rfl, trivial⟩ | exact ⟨rfl, rfl, trivial⟩) rfl rfl rfl ?_)
    (refine r_pure (a_bits (by simp) rfl) rfl rfl ?_)
    (refine r_pure (a_move (r := .p _)) rfl rfl ?_)
    (refine r_callV (fun n => 150 + 1000 * n) (rotated_s _ _) rfl rfl Try.func83 rfl rfl (by first | rfl | simp [AV.noSl, AV.noSlL, AObj.noSl, PV.isV, bs_noSl]) (by first | rfl | simp [AV.noSl, AV.noSlL, AObj.noSl, PV.isV, bs_noSl]) rfl rfl rfl (by first | exact trivial | exact ⟨rfl, trivial⟩ | exact ⟨rfl, rfl, trivial⟩) rfl rfl rfl ?_)
    (refine r_pure (a_bits (by simp) rfl) rfl rfl ?_)
    (refine r_pure (a_move (r := .p _)) rfl rfl ?_)
    (refine r_pure (a_move (r := .p _)) rfl rfl ?_)
    (refine r_pure (a_bits (by simp) rfl) rfl rfl ?_)
    (refine r_pure (a_move (r := .p _)) rfl rfl ?_)
    (refine r_pure (a_move (r := .p _)) rfl rfl ?_)
    (refine r_pure (a_move (r := .p _)) rfl rfl ?_)
    (refine r_pure (a_bits (by simp) rfl) rfl rfl ?_)
    (refine r_pure (a_bits (by simp) rfl) rfl rfl ?_)
    (refine r_pure (a_bits (by simp) (mjR _ _ _)) rfl rfl ?_)
    (refine r_pure (a_add (show _ = two v from rfl)) rfl rfl ?_)
    (refine r_pure (a_assign (r := .p _)) rfl rfl ?_)
    refine arun_nil ?_
    refine thn_n ?_
    refine awp_text (by kernel_rfl) ?_
    (refine r_pure (a_move (r := .p _)) rfl rfl ?_)
    (refine r_pure (a_move (r := .p _)) rfl rfl ?_)
    (refine r_pure (a_add (show _ = ad (one ck wk v) (two v) from rfl)) rfl rfl ?_)
    (refine r_pure (a_move (r := .p _)) rfl rfl ?_)
    (refine r_pure (a_move (r := .p _)) rfl rfl ?_)
    (refine r_pure (a_move (r := .p _)) rfl rfl ?_)
    (refine r_pure (a_move (r := .p _)) rfl rfl ?_)
    (refine r_pure (a_move (r := .p _)) rfl rfl ?_)
    (refine r_pure (a_add (show _ = ad v.d (one ck wk v) from rfl)) rfl rfl ?_)
    (refine r_pure (a_move (r := .p _)) rfl rfl ?_)
    (refine r_pure (a_move (r := .p _)) rfl rfl ?_)
    (refine r_pure (a_move (r := .p _)) rfl rfl ?_)
    (refine r_pure (a_assign (r := .p _)) rfl rfl ?_)
    (refine r_pure (a_assign (r := .p _)) rfl rfl ?_)
    (refine r_pure (a_assign (r := .p _)) rfl rfl ?_)
    (refine r_pure (a_assign (r := .p _)) rfl rfl ?_)
    (refine r_pure (a_assign (r := .p _)) rfl rfl ?_)
    (refine r_pure (a_assign (r := .p _)) rfl rfl ?_)
    (refine r_pure (a_assign (r := .p _)) rfl rfl ?_)
    (refine r_pure (a_assign (r := .p _)) rfl rfl ?_)
    refine arun_nil ?_
    refine inb_n (thn_n ?_)
    refine awp_text (by kernel_rfl) ?_
    (refine r_pure (a_move (r := .p _)) rfl rfl ?_)
    (refine r_pure (a_add (by first | exact IntWalk.i64_in _ (by omega) | rfl)) rfl rfl ?_)
    (refine r_pure (a_assign (r := .p _)) rfl rfl ?_)
    refine arun_nil ?_
    refine thn_n ?_
    refine ⟨m - 1, by omega, _, re_of id _ _ ?_ ?_ rfl, k + 1, by omega, rfl⟩
    · rw [hs]
      (repeat (first | exact trivial | (refine ⟨⟨(by first | rfl | (simp; done) | (simp; omega)), rfl⟩, ?_⟩)))
    · exact ⟨⟨rfl, rfl⟩, trivial⟩
  have hge : k = 64 := by simp at h; omega
  clear h
  subst hge
  generalize rn RK W2 v0 64 = v
  refine awp_exit (awp_seq ?_)
  refine awp_draw 4 (by kernel_rfl) ?_
  (refine r_pure (a_move (r := .p _)) rfl rfl ?_)
  (refine r_pure (a_indexAddrS Try.underlying72 sz23 (by omega) (by omega) rfl) rfl rfl ?_)
  (refine r_pure (a_load1p Try.underlying23 rfl (by first | rfl | assumption | ((try simp only [List.getElem?_drop, List.getElem?_take, Int.toNat_natCast, Nat.mul_one, Nat.add_zero, Nat.zero_add]); first | assumption | rfl))) rfl rfl ?_)
  (refine r_pure (a_move (r := .p _)) rfl rfl ?_)
  (refine r_pure (a_add (ad_comm _ _)) rfl rfl ?_)
  (refine r_pure (a_move (r := .p _)) rfl rfl ?_)
  (refine r_pure (a_indexAddrS Try.underlying72 sz23 (by omega) (by omega) rfl) rfl rfl ?_)
  (refine r_pure (a_load1p Try.underlying23 rfl (by first | rfl | assumption | ((try simp only [List.getElem?_drop, List.getElem?_take, Int.toNat_natCast, Nat.mul_one, Nat.add_zero, Nat.zero_add]); first | assumption | rfl))) rfl rfl ?_)
  (refine r_pure (a_move (r := .p _)) rfl rfl ?_)
  (refine r_pure (a_add (ad_comm _ _)) rfl rfl ?_)
  (refine r_pure (a_move (r := .p _)) rfl rfl ?_)
  (refine r_pure (a_indexAddrS Try.underlying72 sz23 (by omega) (by omega) rfl) rfl rfl ?_)
  (refine r_pure (a_load1p Try.underlying23 rfl (by first | rfl | assumption | ((try simp only [List.getElem?_drop, List.getElem?_take, Int.toNat_natCast, Nat.mul_one, Nat.add_zero, Nat.zero_add]); first | assumption | rfl))) rfl rfl ?_)
  (refine r_pure (a_move (r := .p _)) rfl rfl ?_)
  (refine r_pure (a_add (ad_comm _ _)) rfl rfl ?_)
  (refine r_pure (a_move (r := .p _)) rfl rfl ?_)
  (refine r_pure (a_indexAddrS Try.underlying72 sz23 (by omega) (by omega) rfl) rfl rfl ?_)
  (refine r_pure (a_load1p Try.underlying23 rfl (by first | rfl | assumption | ((try simp only [List.getElem?_drop, List.getElem?_take, Int.toNat_natCast, Nat.mul_one, Nat.add_zero, Nat.zero_add]); first | assumption | rfl))) rfl rfl ?_)
  (refine r_pure (a_move (r := .p _)) rfl rfl ?_)
  (refine r_pure (a_add (ad_comm _ _)) rfl rfl ?_)
  (refine r_pure (a_move (r := .p _)) rfl rfl ?_)
  (refine r_pure (a_indexAddrS Try.underlying72 sz23 (by omega) (by omega) rfl) rfl rfl ?_)
  (refine r_pure (a_load1p Try.underlying23 rfl (by first | rfl | assumption | ((try simp only [List.getElem?_drop, List.getElem?_take, Int.toNat_natCast, Nat.mul_one, Nat.add_zero, Nat.zero_add]); first | assumption | rfl))) rfl rfl ?_)
  (refine r_pure (a_move (r := .p _)) rfl rfl ?_)
  (refine r_pure (a_add (ad_comm _ _)) rfl rfl ?_)
  (refine r_pure (a_move (r := .p _)) rfl rfl ?_)
  (refine r_pure (a_indexAddrS Try.underlying72 sz23 (by omega) (by omega) rfl) rfl rfl ?_)
  (refine r_pure (a_load1p Try.underlying23 rfl (by first | rfl | assumption | ((try simp only [List.getElem?_drop, List.getElem?_take, Int.toNat_natCast, Nat.mul_one, Nat.add_zero, Nat.zero_add]); first | assumption | rfl))) rfl rfl ?_)
  (refine r_pure (a_move (r := .p _)) rfl rfl ?_)
  (refine r_pure (a_add (ad_comm _ _)) rfl rfl ?_)
  (refine r_pure (a_move (r := .p _)) rfl rfl ?_)
  (refine r_pure (a_indexAddrS Try.underlying72 sz23 (by omega) (by omega) rfl) rfl rfl ?_)
  (refine r_pure (a_load1p Try.underlying23 rfl (by first | rfl | assumption | ((try simp only [List.getElem?_drop, List.getElem?_take, Int.toNat_natCast, Nat.mul_one, Nat.add_zero, Nat.zero_add]); first | assumption | rfl))) rfl rfl ?_)
  (refine r_pure (a_move (r := .p _)) rfl rfl ?_)
  (refine r_pure (a_add (ad_comm _ _)) rfl rfl ?_)
  (refine r_pure (a_move (r := .p _)) rfl rfl ?_)
  (refine r_pure (a_indexAddrS Try.underlying72 sz23 (by omega) (by omega) rfl) rfl rfl ?_)
  (refine r_pure (a_load1p Try.underlying23 rfl (by first | rfl | assumption | ((try simp only [List.getElem?_drop, List.getElem?_take, Int.toNat_natCast, Nat.mul_one, Nat.add_zero, Nat.zero_add]); first | assumption | rfl))) rfl rfl ?_)
  (refine r_pure (a_move (r := .p _)) rfl rfl ?_)
  (refine r_pure (a_add (ad_comm _ _)) rfl rfl ?_)
  (refine r_run (xs := (iu (v.plus v0).l)) (a_buildSlice (es := (iu (v.plus v0).l)) (cs := (pu (v.plus v0).l)) 214 Try.underlying72 sz23 zc23 (Nat.le_of_ble_eq_true rfl) (Nat.le_of_ble_eq_true rfl) rfl (by kernel_rfl) (by kernel_rfl) (by kernel_rfl) (Nat.le_of_ble_eq_true rfl)) (by first | rfl | kernel_rfl) rfl ⟨rfl, trivial⟩ ?_)
  (refine r_pure (a_assign (r := .row _)) rfl rfl ?_)
  refine arun_nil ⟨by kernel_rfl, ?_⟩
  refine awp_ret ?_
  refine ⟨(by first | exact .inl rfl | exact .inr rfl), _, (fun _ => 214), (.tmp _ _ _ _ rfl .nil), ?_, rfl, ?_, rfl⟩
  · exact rfl
  · exact ⟨⟨rfl, rfl⟩, trivial⟩
end Go.Proofs.Ytgbgpidimipfjaa
