/- bytes.Equal, mac.Right, seal.Open, its reference, and the law SealOpens, over data. -/
import Derived.Test.YtckkmfoccefcfaaSl2
namespace Go.Proofs.Ytckkmfoccefcfaa
open Go.RowKit Go.Sort
set_option linter.unusedVariables false
set_option linter.unusedSimpArgs false
set_option maxRecDepth 100000

theorem equal_s (n m : Nat) (xs ys : List Int) (hx : isB xs) (hy : isB ys) : Fn Try.prog 93 [.p (.sl n 1 (bs xs)), .p (.sl m 1 (bs ys))] (.p (.v (.bool (decide (xs = ys))))) [] := by
  have e : decide (xs = ys) = decide (strOfNums xs = strOfNums ys) := decide_eq_decide.2 ⟨fun h => by rw [h], nums_inj hx hy⟩
  rw [e]
  refine fn_intro Try.func93 rfl (Nat.le_of_ble_eq_true rfl) fun w0 A => ?_
  refine awp_seq ?_
  refine awp_text (by kernel_rfl) ?_
  (refine r_pure (a_assign (r := .p _)) rfl rfl ?_)
  refine arun_nil ?_
  refine awp_seq ?_
  refine awp_text (by kernel_rfl) ?_
  (refine r_pure (a_move (r := .p _)) rfl rfl ?_)
  (refine r_run (a_b2s Try.underlying50 Try.underlying5 Try.underlying9 (src_sl) rfl rfl) rfl rfl trivial ?_)
  (refine r_pure (a_move (r := .p _)) rfl rfl ?_)
  (refine r_run (a_b2s Try.underlying50 Try.underlying5 Try.underlying9 (src_sl) rfl rfl) rfl rfl trivial ?_)
  (refine r_pure a_seql rfl rfl ?_)
  (refine r_pure (a_assign (r := .p _)) rfl rfl ?_)
  refine arun_nil ?_
  refine awp_ret ?_
  refine ⟨(by first | exact .inl rfl | exact .inr rfl), _, (fun o => o), (.tmp _ _ _ _ rfl .nil), ?_, rfl, ?_, rfl⟩
  · exact rfl
  · exact trivial

def rightB (s : ByteArray) (b t : List Int) : Bool := decide (macE s b.length = 0 ∧ (macD s b).take 16 = t)
set_option maxHeartbeats 1000000 in
theorem right_s (s : ByteArray) (n m : Nat) (b t : List Int) (hb : b.length = n) (hB : isB b) (ht : isB t) :
    Fn Try.prog 113 [.p (.v (.string s)), .p (.sl n 1 (bs b)), .p (.sl m 1 (bs t))] (.tup [.p (.v (.bool (rightB s b t))), .p (.v (.int .i64 (macE s n)))]) [] := by
  have hT := tag_s s n b hb hB
  have hD := macD_B s b
  have hDl := macD_len s b
  unfold rightB
  refine fn_intro Try.func113 rfl (Nat.le_of_ble_eq_true rfl) fun w0 A => ?_
  by_cases hz : macE s n ≠ 0
  · obtain ⟨e1, e2⟩ := bRes_bad (e' := macE s n) rfl hz 32 (macD s b)
    rw [e1, e2] at hT
    rw [hb, decide_eq_false (fun h => hz h.1)]
    generalize macE s n = ee at hT hz
    refine awp_seq ?_
    refine awp_text (by kernel_rfl) ?_
    (refine r_pure (a_assign (r := .p _)) rfl rfl ?_)
    (refine r_pure (a_assign (r := .p _)) rfl rfl ?_)
    refine arun_nil ?_
    refine awp_seq ?_
    refine awp_text (by kernel_rfl) ?_
    (refine r_pure (a_move (r := .p _)) rfl rfl ?_)
    (refine r_pure (a_move (r := .p _)) rfl rfl ?_)
    (refine r_callV (fun n => 13 + 1000 * n) (hT) rfl rfl Try.func105 rfl rfl (by first | rfl | simp [AV.noSl, AV.noSlL, AObj.noSl, PV.isV, bs_noSl]) (by first | rfl | simp [AV.noSl, AV.noSlL, AObj.noSl, PV.isV, bs_noSl]) rfl rfl rfl (by first | exact trivial | exact ⟨rfl, trivial⟩ | exact ⟨rfl, rfl, trivial⟩) rfl rfl rfl ?_)
    (refine r_pure (a_move (r := .tup _)) rfl rfl ?_)
    (refine r_pure (a_extract rfl) rfl rfl ?_)
    (refine r_pure (a_extract rfl) rfl rfl ?_)
    (refine r_pure (a_assign (r := .p _)) rfl rfl ?_)
    (refine r_pure (a_assign (r := .p _)) rfl rfl ?_)
    refine arun_nil ?_
    refine awp_seq (awp_seq ?_)
    refine awp_text (by kernel_rfl) ?_
    (refine r_pure (a_move (r := .p _)) rfl rfl ?_)
    (refine r_pure a_neq rfl rfl ?_)
    refine arun_nil ?_
    refine thn_n ?_
    refine awp_cond _ rfl (fun h => ?_) (fun h => ?_)
    · refine awp_seq ?_
      refine awp_text (by kernel_rfl) ?_
      (refine r_pure (a_move (r := .p _)) rfl rfl ?_)
      (refine r_pure (a_assign (r := .p _)) rfl rfl ?_)
      (refine r_pure (a_assign (r := .p _)) rfl rfl ?_)
      refine arun_nil ?_
      refine awp_ret (thn_r ?_)
      refine ⟨(by first | exact .inl rfl | exact .inr rfl), _, (fun o => o), (.tmp _ _ _ _ rfl (.tmp _ _ _ _ rfl .nil)), ?_, rfl, ?_, rfl⟩
      · exact rfl
      · exact trivial
    exact absurd (by simpa using h) hz
  have hz : macE s n = 0 := by simpa using hz
  obtain ⟨e1, e2⟩ := bRes_good hz 32 (macD s b)
  rw [e1, e2] at hT
  clear e1 e2
  rw [hb, hz, show decide ((0 : Int) = 0 ∧ (macD s b).take 16 = t) = decide ((macD s b).take 16 = t) by simp]
  have hQ := equal_s 16 m ((macD s b).take 16) t (fun x hx => hD x (List.mem_of_mem_take hx)) ht
  generalize macD s b = D at *
  have hc := bs_hd D 16
  have hDl2 : (bs D).length = 32 := by rw [bs_length]; exact hDl
  refine awp_seq ?_
  refine awp_text (by kernel_rfl) ?_
  (refine r_pure (a_assign (r := .p _)) rfl rfl ?_)
  (refine r_pure (a_assign (r := .p _)) rfl rfl ?_)
  refine arun_nil ?_
  refine awp_seq ?_
  refine awp_text (by kernel_rfl) ?_
  (refine r_pure (a_move (r := .p _)) rfl rfl ?_)
  (refine r_pure (a_move (r := .p _)) rfl rfl ?_)
  (refine r_callV (fun n => 13 + 1000 * n) (hT) rfl rfl Try.func105 rfl rfl (by first | rfl | simp [AV.noSl, AV.noSlL, AObj.noSl, PV.isV, bs_noSl]) (by first | rfl | simp [AV.noSl, AV.noSlL, AObj.noSl, PV.isV, bs_noSl]) rfl rfl rfl (by first | exact trivial | exact ⟨rfl, trivial⟩ | exact ⟨rfl, rfl, trivial⟩) rfl rfl rfl ?_)
  (refine r_pure (a_move (r := .tup _)) rfl rfl ?_)
  (refine r_pure (a_extract rfl) rfl rfl ?_)
  (refine r_pure (a_extract rfl) rfl rfl ?_)
  (refine r_pure (a_assign (r := .row _)) rfl rfl ?_)
  (refine r_pure (a_assign (r := .p _)) rfl rfl ?_)
  refine arun_nil ?_
  refine awp_seq (awp_seq ?_)
  refine awp_text (by kernel_rfl) ?_
  (refine r_pure (a_move (r := .p _)) rfl rfl ?_)
  (refine r_pure a_neq rfl rfl ?_)
  refine arun_nil ?_
  refine thn_n ?_
  refine awp_cond _ rfl (fun h => ?_) (fun h => ?_)
  · simp at h
  clear h
  refine awp_skip (awp_seq ?_)
  refine awp_text (by kernel_rfl) ?_
  (refine r_pure (a_move (r := .row _)) rfl rfl ?_)
  (refine r_run (a_sliceR (L := none) (H := (some (_, _))) Try.underlying50 sz5 rfl ⟨by omega, rfl⟩ (by omega) (by omega) rfl rfl) rfl rfl ⟨rfl, trivial⟩ ?_)
  (refine r_pure (a_move (r := .p _)) rfl rfl ?_)
  (refine r_callV (fun n => 22 + 1000 * n) (hQ) rfl (vl_psl rfl (by omega) hc.symm rfl) Try.func93 rfl rfl (by first | rfl | simp [AV.noSl, AV.noSlL, AObj.noSl, PV.isV, bs_noSl]) (by first | rfl | simp [AV.noSl, AV.noSlL, AObj.noSl, PV.isV, bs_noSl]) rfl rfl rfl (by first | exact trivial | exact ⟨rfl, trivial⟩ | exact ⟨rfl, rfl, trivial⟩) rfl rfl rfl ?_)
  (refine r_pure (a_assign (r := .p _)) rfl rfl ?_)
  (refine r_pure (a_assign (r := .p _)) rfl rfl ?_)
  refine arun_nil ?_
  refine awp_ret ?_
  refine ⟨(by first | exact .inl rfl | exact .inr rfl), _, (fun o => o), (.tmp _ _ _ _ rfl (.tmp _ _ _ _ rfl .nil)), ?_, rfl, ?_, rfl⟩
  · exact rfl
  · exact trivial

theorem xb_twice {a b : Int} (ha : 0 ≤ a ∧ a < 256) (hb : 0 ≤ b ∧ b < 256) : xb (xb a b) b = a := by
  show IntKind.u8.wrap ((BitVec.ofInt 8 (IntKind.u8.wrap ((BitVec.ofInt 8 a ^^^ BitVec.ofInt 8 b).toNat : Int)) ^^^ BitVec.ofInt 8 b).toNat : Int) = a
  have e : BitVec.ofInt 8 (IntKind.u8.wrap ((BitVec.ofInt 8 a ^^^ BitVec.ofInt 8 b).toNat : Int)) = BitVec.ofInt 8 a ^^^ BitVec.ofInt 8 b := by
    generalize BitVec.ofInt 8 a ^^^ BitVec.ofInt 8 b = v
    rw [IntKind.wrap_u8]
    have := v.isLt
    rw [Int.emod_eq_of_lt (by omega) (by omega), BitVec.ofInt_natCast, BitVec.ofNat_toNat, BitVec.setWidth_eq]
  rw [e, BitVec.xor_assoc, BitVec.xor_self, BitVec.xor_zero, IntKind.wrap_u8, BitVec.toNat_ofInt]
  omega
def opN (b : List Int) : Nat := b.length - 16
def openE (s : ByteArray) (c : Int) (b : List Int) : Int :=
  if 236 < b.length then 1 else if strE s c (opN b) ≠ 0 then strE s c (opN b) else if b.length < 16 then 8 else if (sealT s c (b.take (opN b))).take 16 = b.drop (opN b) then 0 else 9
def openD (s : ByteArray) (c : Int) (b : List Int) : List Int := mixD (b.take (opN b)) (strD s c (opN b))

set_option maxHeartbeats 1000000 in
theorem open_s (s : ByteArray) (c : Int) (N : Nat) (b : List Int) (hb : b.length = N) (hB : isB b) (hN : N ≤ 9223372036854775807) : Fn Try.prog 76 [.p (.v (.string s)), .p (.v (.int .i64 c)), .p (.sl N 1 (bs b))] (bRes (openE s c b)) (bNew (openE s c b) (opN b) (openD s c b)) := by
  refine fn_intro Try.func76 rfl (Nat.le_of_ble_eq_true rfl) fun w0 A => ?_
  subst hb
  refine awp_seq ?_
  refine awp_text (by kernel_rfl) ?_
  (refine r_pure (a_assign (r := .p _)) rfl rfl ?_)
  (refine r_pure (a_assign (r := .p _)) rfl rfl ?_)
  refine arun_nil ?_
  refine awp_seq ?_
  refine awp_text (by kernel_rfl) ?_
  (refine r_pure (a_move (r := .p _)) rfl rfl ?_)
  (refine r_pure (a_lenS Try.underlying50) rfl rfl ?_)
  (refine r_pure (a_sub (by first | exact IntWalk.i64_in _ (by omega) | rfl)) rfl rfl ?_)
  (refine r_pure (a_assign (r := .p _)) rfl rfl ?_)
  refine arun_nil ?_
  refine awp_seq (awp_seq ?_)
  refine awp_text (by kernel_rfl) ?_
  (refine r_pure (a_move (r := .p _)) rfl rfl ?_)
  (refine r_pure a_gtr rfl rfl ?_)
  refine arun_nil ?_
  refine thn_n ?_
  refine awp_cond _ rfl (fun h => ?_) (fun h => ?_)
  · have h2 : 236 < b.length := by simp at h; omega
    obtain ⟨e1, e2⟩ := bRes_bad (show openE s c b = 1 by unfold openE; rw [if_pos h2]) (by omega) (opN b) (openD s c b)
    rw [e1, e2]
    refine awp_seq ?_
    refine awp_text (by kernel_rfl) ?_
    (refine r_pure (a_assign (r := .p _)) rfl rfl ?_)
    (refine r_pure (a_assign (r := .p _)) rfl rfl ?_)
    refine arun_nil ?_
    refine awp_ret (thn_r ?_)
    refine ⟨(by first | exact .inl rfl | exact .inr rfl), _, (fun o => o), (.tmp _ _ _ _ rfl (.tmp _ _ _ _ rfl .nil)), ?_, rfl, ?_, rfl⟩
    · exact rfl
    · exact trivial
  have h2 : b.length ≤ 236 := by simp at h; omega
  clear h
  have hE : openE s c b = if strE s c (opN b) ≠ 0 then strE s c (opN b) else if b.length < 16 then 8 else if (sealT s c (b.take (opN b))).take 16 = b.drop (opN b) then 0 else 9 := by unfold openE; rw [if_neg (by omega)]
  have hS := stream_s s c (opN b)
  have hmx : max ((b.length : Int) - 16) 0 = ((opN b : Nat) : Int) := by unfold opN; omega
  by_cases hz : strE s c (opN b) ≠ 0
  · rw [if_pos hz] at hE
    obtain ⟨e1, e2⟩ := bRes_bad hE hz (opN b) (openD s c b)
    rw [e1, e2]
    obtain ⟨e1, e2⟩ := bRes_bad (e' := strE s c (opN b)) rfl hz (opN b : Int).toNat (strD s c (opN b))
    rw [e1, e2, ← hmx] at hS
    rw [← hmx] at hz ⊢
    generalize strE s c _ = ee at hS hz
    refine awp_skip (awp_seq ?_)
    refine awp_text (by kernel_rfl) ?_
    (refine r_pure (a_move (r := .p _)) rfl rfl ?_)
    (refine r_pure (a_move (r := .p _)) rfl rfl ?_)
    (refine r_pure (a_move (r := .p _)) rfl rfl ?_)
    (refine r_pure a_max rfl rfl ?_)
    (refine r_callV (fun n => 23 + 1000 * n) (hS) rfl rfl Try.func109 rfl rfl (by first | rfl | simp [AV.noSl, AV.noSlL, AObj.noSl, PV.isV, bs_noSl]) (by first | rfl | simp [AV.noSl, AV.noSlL, AObj.noSl, PV.isV, bs_noSl]) rfl rfl rfl (by first | exact trivial | exact ⟨rfl, trivial⟩ | exact ⟨rfl, rfl, trivial⟩) rfl rfl rfl ?_)
    (refine r_pure (a_move (r := .tup _)) rfl rfl ?_)
    (refine r_pure (a_extract rfl) rfl rfl ?_)
    (refine r_pure (a_extract rfl) rfl rfl ?_)
    (refine r_pure (a_assign (r := .p _)) rfl rfl ?_)
    (refine r_pure (a_assign (r := .p _)) rfl rfl ?_)
    refine arun_nil ?_
    refine awp_seq (awp_seq ?_)
    refine awp_text (by kernel_rfl) ?_
    (refine r_pure (a_move (r := .p _)) rfl rfl ?_)
    (refine r_pure a_neq rfl rfl ?_)
    refine arun_nil ?_
    refine thn_n ?_
    refine awp_cond _ rfl (fun h => ?_) (fun h => ?_)
    · refine awp_seq ?_
      refine awp_text (by kernel_rfl) ?_
      (refine r_pure (a_move (r := .p _)) rfl rfl ?_)
      (refine r_pure (a_assign (r := .p _)) rfl rfl ?_)
      (refine r_pure (a_assign (r := .p _)) rfl rfl ?_)
      refine arun_nil ?_
      refine awp_ret (thn_r ?_)
      refine ⟨(by first | exact .inl rfl | exact .inr rfl), _, (fun o => o), (.tmp _ _ _ _ rfl (.tmp _ _ _ _ rfl .nil)), ?_, rfl, ?_, rfl⟩
      · exact rfl
      · exact trivial
    exact absurd (by simpa using h) hz
  have hz : strE s c (opN b) = 0 := by simpa using hz
  rw [hz, if_neg (by omega)] at hE
  obtain ⟨e1, e2⟩ := bRes_good hz (opN b : Int).toNat (strD s c (opN b))
  have hSl := strD_len s c (opN b) (by omega)
  rw [e1, e2, Int.toNat_natCast] at hS
  clear e1 e2
  rw [Int.toNat_natCast] at hSl
  obtain ⟨hk, hc0, hc1, hn0, hn1⟩ := strE_good hz
  obtain ⟨cn, rfl⟩ := Int.eq_ofNat_of_zero_le hc0
  unfold sealT at hE
  rw [Int.toNat_natCast] at hE
  unfold openD
  have hMx := mixed_s (opN b) (b.take (opN b)) (strD s cn (opN b)) (by rw [List.length_take]; unfold opN; omega) hSl (by unfold opN; omega)
  generalize strD s cn (opN b) = SD at *
  have hS2 : Fn Try.prog 109 [.p (.v (.string s)), .p (.v (.int .i64 cn)), .p (.v (.int .i64 (max ((b.length : Int) - 16) 0)))] (.tup [.row 0, .p (.v (.int .i64 0))]) [(0, .row 5 1 (opN b) (bs SD))] := by rw [hmx]; exact hS
  clear hS
  refine awp_skip (awp_seq ?_)
  refine awp_text (by kernel_rfl) ?_
  (refine r_pure (a_move (r := .p _)) rfl rfl ?_)
  (refine r_pure (a_move (r := .p _)) rfl rfl ?_)
  (refine r_pure (a_move (r := .p _)) rfl rfl ?_)
  (refine r_pure a_max rfl rfl ?_)
  (refine r_callV (fun n => 23 + 1000 * n) (hS2) rfl rfl Try.func109 rfl rfl (by first | rfl | simp [AV.noSl, AV.noSlL, AObj.noSl, PV.isV, bs_noSl]) (by first | rfl | simp [AV.noSl, AV.noSlL, AObj.noSl, PV.isV, bs_noSl]) rfl rfl rfl (by first | exact trivial | exact ⟨rfl, trivial⟩ | exact ⟨rfl, rfl, trivial⟩) rfl rfl rfl ?_)
  (refine r_pure (a_move (r := .tup _)) rfl rfl ?_)
  (refine r_pure (a_extract rfl) rfl rfl ?_)
  (refine r_pure (a_extract rfl) rfl rfl ?_)
  (refine r_pure (a_assign (r := .row _)) rfl rfl ?_)
  (refine r_pure (a_assign (r := .p _)) rfl rfl ?_)
  refine arun_nil ?_
  refine awp_seq (awp_seq ?_)
  refine awp_text (by kernel_rfl) ?_
  (refine r_pure (a_move (r := .p _)) rfl rfl ?_)
  (refine r_pure a_neq rfl rfl ?_)
  refine arun_nil ?_
  refine thn_n ?_
  refine awp_cond _ rfl (fun h => ?_) (fun h => ?_)
  · simp at h
  clear h
  refine awp_skip (awp_seq (awp_seq ?_))
  refine awp_text (by kernel_rfl) ?_
  (refine r_pure (a_move (r := .p _)) rfl rfl ?_)
  (refine r_pure a_lss rfl rfl ?_)
  refine arun_nil ?_
  refine thn_n ?_
  refine awp_cond _ rfl (fun h => ?_) (fun h => ?_)
  · have h3 : b.length < 16 := by simp at h; omega
    rw [if_pos h3] at hE
    obtain ⟨e1, e2⟩ := bRes_bad hE (by omega) (opN b) (mixD (b.take (opN b)) SD)
    rw [e1, e2]
    refine awp_seq ?_
    refine awp_text (by kernel_rfl) ?_
    (refine r_pure (a_assign (r := .p _)) rfl rfl ?_)
    (refine r_pure (a_assign (r := .p _)) rfl rfl ?_)
    refine arun_nil ?_
    refine awp_ret (thn_r ?_)
    refine ⟨(by first | exact .inl rfl | exact .inr rfl), _, (fun o => o), (.tmp _ _ _ _ rfl (.tmp _ _ _ _ rfl .nil)), ?_, rfl, ?_, rfl⟩
    · exact rfl
    · exact trivial
  have h3 : 16 ≤ b.length := by simp at h; omega
  clear h
  rw [if_neg (by omega)] at hE
  have hN2 : b.length - 16 = opN b := rfl
  have hN3 : opN b + 16 = b.length := by unfold opN; omega
  have hN4 : opN b ≤ 220 := by omega
  have hbl : (bs b).length = b.length := bs_length b
  have hBt : isB (b.take (opN b)) := fun x hx => hB x (List.mem_of_mem_take hx)
  have hBd : isB (b.drop (opN b)) := fun x hx => hB x (List.mem_of_mem_drop hx)
  have htl : (b.take (opN b)).length = opN b := by rw [List.length_take]; omega
  have hG := signed_s cn (opN b) (b.take (opN b)) htl (by omega)
  have hGl : (SEAL ++ be8 cn ++ b.take (opN b)).length = 12 + opN b := by rw [List.length_append, htl, List.length_append, be8_len]; rfl
  have hR := right_s s (12 + opN b) 16 (SEAL ++ be8 cn ++ b.take (opN b)) (b.drop (opN b)) hGl (isB_app (isB_app SEAL_B (be8_B _)) hBt) hBd
  have hmE : macE s (12 + opN b) = 0 := by unfold macE; rw [if_pos hk, if_neg (by omega)]
  have hRB : rightB s (SEAL ++ be8 cn ++ b.take (opN b)) (b.drop (opN b)) = decide ((macD s (SEAL ++ be8 cn ++ b.take (opN b))).take 16 = b.drop (opN b)) := by
    unfold rightB; rw [hGl, hmE]; simp
  rw [hmE, hRB] at hR
  clear hRB hmE
  have sub1 : ((bs b).drop (0 * 1)).take (opN b * 1) = bs (b.take (opN b)) := by simp [bs, List.map_take]
  have sub2 : ((bs b).drop (opN b * 1)).take (16 * 1) = bs (b.drop (opN b)) := by
    rw [List.take_of_length_le (by rw [List.length_drop]; omega)]; simp [bs, List.map_drop]
  generalize macD s (SEAL ++ be8 cn ++ b.take (opN b)) = TD at *
  generalize SEAL ++ be8 cn ++ b.take (opN b) = GD at *
  have hsm : (b.length : Int) - 16 = ((opN b : Nat) : Int) := by omega
  refine awp_skip (awp_seq (awp_seq ?_))
  refine awp_draw 4 (by kernel_rfl) ?_
  (refine r_pure (a_move (r := .p _)) rfl rfl ?_)
  (refine r_pure (a_move (r := .p _)) rfl rfl ?_)
  (refine r_pure (a_move (r := .p _)) rfl rfl ?_)
  (refine r_pure (a_move (r := .p _)) rfl rfl ?_)
  (refine r_pure (a_sliceS (L := none) (H := (some (_, _))) Try.underlying50 sz5 rfl ⟨by omega, (show _ = opN b by omega)⟩ (by omega) (by omega) (show _ = opN b by omega) sub1) rfl rfl ?_)
  (refine r_callV (fun n => 37 + 1000 * n) (hG) rfl rfl Try.func111 rfl rfl (by first | rfl | simp [AV.noSl, AV.noSlL, AObj.noSl, PV.isV, bs_noSl]) (by first | rfl | simp [AV.noSl, AV.noSlL, AObj.noSl, PV.isV, bs_noSl]) rfl rfl rfl (by first | exact trivial | exact ⟨rfl, trivial⟩ | exact ⟨rfl, rfl, trivial⟩) rfl rfl rfl ?_)
  (refine r_pure (a_move (r := .p _)) rfl rfl ?_)
  (refine r_pure (a_move (r := .p _)) rfl rfl ?_)
  (refine r_pure (a_sliceS (L := (some (_, _))) (H := none) Try.underlying50 sz5 ⟨by omega, (show _ = opN b by omega)⟩ rfl (by omega) (by omega) (show _ = 16 by omega) sub2) rfl rfl ?_)
  (refine r_callV (fun n => 41 + 1000 * n) (hR) rfl rfl Try.func113 rfl rfl (by first | rfl | simp [AV.noSl, AV.noSlL, AObj.noSl, PV.isV, bs_noSl]) (by first | rfl | simp [AV.noSl, AV.noSlL, AObj.noSl, PV.isV, bs_noSl]) rfl rfl rfl (by first | exact trivial | exact ⟨rfl, trivial⟩ | exact ⟨rfl, rfl, trivial⟩) rfl rfl rfl ?_)
  (refine r_pure (a_move (r := .tup _)) rfl rfl ?_)
  (refine r_pure (a_extract rfl) rfl rfl ?_)
  (refine r_pure (a_extract rfl) rfl rfl ?_)
  (refine r_pure (a_assign (r := .p _)) rfl rfl ?_)
  (refine r_pure (a_assign (r := .p _)) rfl rfl ?_)
  refine arun_nil ⟨by kernel_rfl, ?_⟩
  refine awp_seq ?_
  refine awp_text (by kernel_rfl) ?_
  (refine r_pure (a_move (r := .p _)) rfl rfl ?_)
  (refine r_pure a_not rfl rfl ?_)
  refine arun_nil ?_
  refine thn_n ?_
  refine awp_cond _ rfl (fun h => ?_) (fun h => ?_)
  · have h4 : ¬ TD.take 16 = b.drop (opN b) := by simpa using h
    rw [if_neg h4] at hE
    obtain ⟨e1, e2⟩ := bRes_bad hE (by omega) (opN b) (mixD (b.take (opN b)) SD)
    rw [e1, e2]
    refine awp_seq ?_
    refine awp_text (by kernel_rfl) ?_
    (refine r_pure (a_assign (r := .p _)) rfl rfl ?_)
    (refine r_pure (a_assign (r := .p _)) rfl rfl ?_)
    refine arun_nil ?_
    refine awp_ret (thn_r ?_)
    refine ⟨(by first | exact .inl rfl | exact .inr rfl), _, (fun o => o), (.tmp _ _ _ _ rfl (.tmp _ _ _ _ rfl .nil)), ?_, rfl, ?_, rfl⟩
    · exact rfl
    · exact trivial
  have h4 : TD.take 16 = b.drop (opN b) := by simpa using h
  rw [if_pos h4] at hE
  obtain ⟨e1, e2⟩ := bRes_good hE (opN b) (mixD (b.take (opN b)) SD)
  rw [e1, e2]
  refine awp_skip (awp_seq ?_)
  refine awp_text (by kernel_rfl) ?_
  (refine r_pure (a_move (r := .p _)) rfl rfl ?_)
  (refine r_pure (a_move (r := .p _)) rfl rfl ?_)
  (refine r_pure (a_sliceS (L := none) (H := (some (_, _))) Try.underlying50 sz5 rfl ⟨by omega, (show _ = opN b by omega)⟩ (by omega) (by omega) (show _ = opN b by omega) sub1) rfl rfl ?_)
  (refine r_pure (a_move (r := .row _)) rfl rfl ?_)
  (refine r_callV (fun n => 50 + 1000 * n) (hMx) rfl rfl Try.func110 rfl rfl (by first | rfl | simp [AV.noSl, AV.noSlL, AObj.noSl, PV.isV, bs_noSl]) (by first | rfl | simp [AV.noSl, AV.noSlL, AObj.noSl, PV.isV, bs_noSl]) rfl rfl rfl (by first | exact trivial | exact ⟨rfl, trivial⟩ | exact ⟨rfl, rfl, trivial⟩) rfl rfl rfl ?_)
  (refine r_pure (a_assign (r := .row _)) rfl rfl ?_)
  (refine r_pure (a_assign (r := .p _)) rfl rfl ?_)
  refine arun_nil ?_
  refine awp_ret ?_
  refine ⟨(by first | exact .inl rfl | exact .inr rfl), _, (fun _ => 50), (.tmp _ _ _ _ rfl (.tmp _ _ _ _ rfl .nil)), ?_, rfl, ?_, rfl⟩
  · exact rfl
  · exact ⟨⟨rfl, rfl⟩, trivial⟩

theorem app_inj {a a' t t' : List Int} (h : a.length = a'.length) : a ++ t = a' ++ t' ↔ a = a' ∧ t = t' := ⟨fun e => List.append_inj e h, fun ⟨e, f⟩ => by rw [e, f]⟩
theorem mixD_twice {a b : List Int} (ha : isB a) (hb : isB b) (h : a.length = b.length) : mixD (mixD a b) b = a := by
  unfold mixD
  apply List.ext_getElem
  · simp; omega
  intro i h1 h2
  simp only [List.getElem_zipWith]
  exact xb_twice (ha _ (List.getElem_mem _)) (hb _ (List.getElem_mem _))

set_option maxHeartbeats 1000000 in
theorem refOpen_s (s : ByteArray) (c : Int) (N : Nat) (b : List Int) (hb : b.length = N) (hB : isB b) (hN : N ≤ 9223372036854775807) : Fn Try.prog 78 [.p (.v (.string s)), .p (.v (.int .i64 c)), .p (.sl N 1 (bs b))] (bRes (openE s c b)) (bNew (openE s c b) (opN b) (openD s c b)) := by
  refine fn_intro Try.func78 rfl (Nat.le_of_ble_eq_true rfl) fun w0 A => ?_
  subst hb
  refine awp_seq ?_
  refine awp_text (by kernel_rfl) ?_
  (refine r_pure (a_assign (r := .p _)) rfl rfl ?_)
  (refine r_pure (a_assign (r := .p _)) rfl rfl ?_)
  refine arun_nil ?_
  refine awp_seq (awp_seq ?_)
  refine awp_text (by kernel_rfl) ?_
  (refine r_pure (a_move (r := .p _)) rfl rfl ?_)
  (refine r_pure (a_lenS Try.underlying50) rfl rfl ?_)
  (refine r_pure a_gtr rfl rfl ?_)
  refine arun_nil ?_
  refine thn_n ?_
  refine awp_cond _ rfl (fun h => ?_) (fun h => ?_)
  · have h2 : 236 < b.length := by simp at h; omega
    obtain ⟨e1, e2⟩ := bRes_bad (show openE s c b = 1 by unfold openE; rw [if_pos h2]) (by omega) (opN b) (openD s c b)
    rw [e1, e2]
    refine awp_seq ?_
    refine awp_text (by kernel_rfl) ?_
    (refine r_pure (a_assign (r := .p _)) rfl rfl ?_)
    (refine r_pure (a_assign (r := .p _)) rfl rfl ?_)
    refine arun_nil ?_
    refine awp_ret (thn_r ?_)
    refine ⟨(by first | exact .inl rfl | exact .inr rfl), _, (fun o => o), (.tmp _ _ _ _ rfl (.tmp _ _ _ _ rfl .nil)), ?_, rfl, ?_, rfl⟩
    · exact rfl
    · exact trivial
  have h2 : b.length ≤ 236 := by simp at h; omega
  clear h
  have hE : openE s c b = if strE s c (opN b) ≠ 0 then strE s c (opN b) else if b.length < 16 then 8 else if (sealT s c (b.take (opN b))).take 16 = b.drop (opN b) then 0 else 9 := by unfold openE; rw [if_neg (by omega)]
  have hS := refStream_s s c (opN b)
  refine awp_skip (awp_seq ?_)
  refine awp_text (by kernel_rfl) ?_
  (refine r_pure (a_move (r := .p _)) rfl rfl ?_)
  (refine r_pure (a_lenS Try.underlying50) rfl rfl ?_)
  (refine r_pure (a_sub (by first | exact IntWalk.i64_in _ (by omega) | rfl)) rfl rfl ?_)
  (refine r_pure (a_assign (r := .p _)) rfl rfl ?_)
  refine arun_nil ?_
  refine awp_seq (awp_seq ?_)
  refine awp_text (by kernel_rfl) ?_
  (refine r_pure (a_move (r := .p _)) rfl rfl ?_)
  (refine r_pure a_lss rfl rfl ?_)
  refine arun_nil ?_
  refine thn_n ?_
  refine awp_join (St.of [(0, .p (.v (.string s))), (1, .p (.v (.int .i64 c))), (2, .p (.sl b.length 1 (bs b))), (8, .p (.v (.int .i64 (opN b : Nat))))] []) ?_ ?_
  · refine awp_cond _ rfl (fun h => ?_) (fun h => ?_)
    · have h3 : b.length < 16 := by simp at h; omega
      have h4 : opN b = 0 := by unfold opN; omega
      rw [h4]
      skip
      refine awp_text (by kernel_rfl) ?_
      (refine r_pure (a_assign (r := .p _)) rfl rfl ?_)
      refine arun_nil ?_
      exact ⟨rfl, re_of id _ _ (by (repeat (first | exact trivial | (refine ⟨⟨(by first | rfl | (simp; done) | (simp; omega)), rfl⟩, ?_⟩)))) trivial rfl⟩
    · have h3 : 16 ≤ b.length := by simp at h; omega
      have h4 : ((opN b : Nat) : Int) = (b.length : Int) - 16 := by unfold opN; omega
      rw [h4]
      refine awp_skip ?_
      exact ⟨rfl, re_of id _ _ (by (repeat (first | exact trivial | (refine ⟨⟨(by first | rfl | (simp; done) | (simp; omega)), rfl⟩, ?_⟩)))) trivial rfl⟩
  by_cases hz : strE s c (opN b) ≠ 0
  · rw [if_pos hz] at hE
    obtain ⟨e1, e2⟩ := bRes_bad hE hz (opN b) (openD s c b)
    rw [e1, e2]
    obtain ⟨e1, e2⟩ := bRes_bad (e' := strE s c (opN b)) rfl hz (opN b : Int).toNat (strD s c (opN b))
    rw [e1, e2] at hS
    generalize strE s c (opN b) = ee at hS hz
    refine awp_seq ?_
    refine awp_text (by kernel_rfl) ?_
    (refine r_pure (a_move (r := .p _)) rfl rfl ?_)
    (refine r_pure (a_move (r := .p _)) rfl rfl ?_)
    (refine r_pure (a_move (r := .p _)) rfl rfl ?_)
    (refine r_callV (fun n => 26 + 1000 * n) (hS) rfl rfl Try.func112 rfl rfl (by first | rfl | simp [AV.noSl, AV.noSlL, AObj.noSl, PV.isV, bs_noSl]) (by first | rfl | simp [AV.noSl, AV.noSlL, AObj.noSl, PV.isV, bs_noSl]) rfl rfl rfl (by first | exact trivial | exact ⟨rfl, trivial⟩ | exact ⟨rfl, rfl, trivial⟩) rfl rfl rfl ?_)
    (refine r_pure (a_move (r := .tup _)) rfl rfl ?_)
    (refine r_pure (a_extract rfl) rfl rfl ?_)
    (refine r_pure (a_extract rfl) rfl rfl ?_)
    (refine r_pure (a_assign (r := .p _)) rfl rfl ?_)
    (refine r_pure (a_assign (r := .p _)) rfl rfl ?_)
    refine arun_nil ?_
    refine awp_seq (awp_seq ?_)
    refine awp_text (by kernel_rfl) ?_
    (refine r_pure (a_move (r := .p _)) rfl rfl ?_)
    (refine r_pure a_neq rfl rfl ?_)
    refine arun_nil ?_
    refine thn_n ?_
    refine awp_cond _ rfl (fun h => ?_) (fun h => ?_)
    · refine awp_seq ?_
      refine awp_text (by kernel_rfl) ?_
      (refine r_pure (a_move (r := .p _)) rfl rfl ?_)
      (refine r_pure (a_assign (r := .p _)) rfl rfl ?_)
      (refine r_pure (a_assign (r := .p _)) rfl rfl ?_)
      refine arun_nil ?_
      refine awp_ret (thn_r ?_)
      refine ⟨(by first | exact .inl rfl | exact .inr rfl), _, (fun o => o), (.tmp _ _ _ _ rfl (.tmp _ _ _ _ rfl .nil)), ?_, rfl, ?_, rfl⟩
      · exact rfl
      · exact trivial
    exact absurd (by simpa using h) hz
  have hz : strE s c (opN b) = 0 := by simpa using hz
  have hz0 := hz
  rw [hz, if_neg (by omega)] at hE
  obtain ⟨e1, e2⟩ := bRes_good hz (opN b : Int).toNat (strD s c (opN b))
  have hSl := strD_len s c (opN b) (by omega)
  have hSB := strD_B s c (opN b)
  rw [e1, e2, Int.toNat_natCast] at hS
  clear e1 e2
  rw [Int.toNat_natCast] at hSl
  obtain ⟨hk, hc0, hc1, hn0, hn1⟩ := strE_good hz
  obtain ⟨cn, rfl⟩ := Int.eq_ofNat_of_zero_le hc0
  unfold sealT at hE
  rw [Int.toNat_natCast] at hE
  unfold openD
  have hQ := refSeal_s s cn (opN b) (mixD (b.take (opN b)) (strD s cn (opN b))) (mixD_len (by rw [List.length_take]; unfold opN; omega) hSl) (mixD_B _ _)
  obtain ⟨e1, e2⟩ := bRes_good (show sealE s cn (opN b) = 0 by unfold sealE; rw [if_neg (by unfold opN; omega)]; exact hz) (opN b + 16) (sealD s cn (mixD (b.take (opN b)) (strD s cn (opN b))))
  rw [e1, e2] at hQ
  clear e1 e2
  have hBt : isB (b.take (opN b)) := fun x hx => hB x (List.mem_of_mem_take hx)
  have hTl : (b.take (opN b)).length = opN b := by rw [List.length_take]; unfold opN; omega
  unfold sealD sealO sealT at hQ
  rw [mixD_len hTl hSl, mixD_twice hBt hSB (by rw [hTl, hSl]), Int.toNat_natCast] at hQ
  have hTD := macD_len s (SEAL ++ be8 cn ++ b.take (opN b))
  have hTB := macD_B s (SEAL ++ be8 cn ++ b.take (opN b))
  generalize macD s (SEAL ++ be8 cn ++ b.take (opN b)) = TD at *
  generalize strD s cn (opN b) = SD at *
  have hMl := mixD_len hSl hTl
  have hfull := mixK_full hSl hTl hSl
  rw [mixD_comm] at hfull
  refine awp_seq ?_
  refine awp_text (by kernel_rfl) ?_
  (refine r_pure (a_move (r := .p _)) rfl rfl ?_)
  (refine r_pure (a_move (r := .p _)) rfl rfl ?_)
  (refine r_pure (a_move (r := .p _)) rfl rfl ?_)
  (refine r_callV (fun n => 26 + 1000 * n) (hS) rfl rfl Try.func112 rfl rfl (by first | rfl | simp [AV.noSl, AV.noSlL, AObj.noSl, PV.isV, bs_noSl]) (by first | rfl | simp [AV.noSl, AV.noSlL, AObj.noSl, PV.isV, bs_noSl]) rfl rfl rfl (by first | exact trivial | exact ⟨rfl, trivial⟩ | exact ⟨rfl, rfl, trivial⟩) rfl rfl rfl ?_)
  (refine r_pure (a_move (r := .tup _)) rfl rfl ?_)
  (refine r_pure (a_extract rfl) rfl rfl ?_)
  (refine r_pure (a_extract rfl) rfl rfl ?_)
  (refine r_pure (a_assign (r := .row _)) rfl rfl ?_)
  (refine r_pure (a_assign (r := .p _)) rfl rfl ?_)
  refine arun_nil ?_
  refine awp_seq (awp_seq ?_)
  refine awp_text (by kernel_rfl) ?_
  (refine r_pure (a_move (r := .p _)) rfl rfl ?_)
  (refine r_pure a_neq rfl rfl ?_)
  refine arun_nil ?_
  refine thn_n ?_
  refine awp_cond _ rfl (fun h => ?_) (fun h => ?_)
  · simp at h
  clear h
  refine awp_skip (awp_seq (awp_seq ?_))
  refine awp_text (by kernel_rfl) ?_
  (refine r_pure (a_move (r := .p _)) rfl rfl ?_)
  (refine r_pure (a_lenS Try.underlying50) rfl rfl ?_)
  (refine r_pure a_lss rfl rfl ?_)
  refine arun_nil ?_
  refine thn_n ?_
  refine awp_cond _ rfl (fun h => ?_) (fun h => ?_)
  · have h3 : b.length < 16 := by simp at h; omega
    rw [if_pos h3] at hE
    obtain ⟨e1, e2⟩ := bRes_bad hE (by omega) (opN b) (mixD (b.take (opN b)) SD)
    rw [e1, e2]
    refine awp_seq ?_
    refine awp_text (by kernel_rfl) ?_
    (refine r_pure (a_assign (r := .p _)) rfl rfl ?_)
    (refine r_pure (a_assign (r := .p _)) rfl rfl ?_)
    refine arun_nil ?_
    refine awp_ret (thn_r ?_)
    refine ⟨(by first | exact .inl rfl | exact .inr rfl), _, (fun o => o), (.tmp _ _ _ _ rfl (.tmp _ _ _ _ rfl .nil)), ?_, rfl, ?_, rfl⟩
    · exact rfl
    · exact trivial
  have h3 : 16 ≤ b.length := by simp at h; omega
  clear h
  rw [if_neg (by omega)] at hE
  have hN3 : opN b + 16 = b.length := by unfold opN; omega
  have hN4 : opN b ≤ 220 := by omega
  have hz1 : mixK SD (b.take (opN b)) SD 0 = SD := by simp [mixK]
  refine awp_skip (awp_seq (awp_seq ?_))
  refine awp_text (by kernel_rfl) ?_
  (refine r_pure (a_move (r := .row _)) rfl rfl ?_)
  (refine r_run (a_lenR Try.underlying50) rfl rfl ⟨rfl, trivial⟩ ?_)
  (refine r_pure (a_move (r := .p _)) rfl rfl ?_)
  refine arun_nil ?_
  refine awp_block ?_
  refine awp_loopR (fun m st => ∃ k : Nat, m + k = opN b ∧ st = St.of [(0, .p (.v (.string s))), (1, .p (.v (.int .i64 cn))), (2, .p (.sl b.length 1 (bs b))), (9, .row 9), (36, .p (.v (.int .i64 (opN b : Nat)))), (37, .p (.v (.int .i64 k)))] [(9, .row 5 1 (opN b) (bs (mixK SD (b.take (opN b)) SD k)))]) (opN b) ?_ ?_
  · refine ⟨_, re_of (fun _ => 26) _ _ ?_ ?_ rfl, 0, by omega, rfl⟩
    · (repeat (first | exact trivial | (refine ⟨⟨(by first | rfl | (simp; done) | (simp; omega)), rfl⟩, ?_⟩)))
    · rw [hz1]
      exact ⟨⟨rfl, rfl⟩, trivial⟩
  rintro m st ⟨k, hk2, rfl⟩
  refine awp_seq ?_
  refine awp_text (by kernel_rfl) ?_
  (refine r_pure a_lss rfl rfl ?_)
  refine arun_nil ?_
  refine awp_seq ?_
  refine awp_cond _ rfl (fun h => ?_) (fun h => ?_)
  · have hlt : k < opN b := by simp at h; omega
    clear h
    obtain ⟨x, hx⟩ : ∃ x, SD[k]? = some x := ⟨SD[k]'(by omega), List.getElem?_eq_getElem (by omega)⟩
    obtain ⟨y, hy⟩ : ∃ y, (b.take (opN b))[k]? = some y := ⟨(b.take (opN b))[k]'(by omega), List.getElem?_eq_getElem (by omega)⟩
    obtain ⟨g1, g2⟩ := mixK_step hSl hTl hSl hlt hx hy
    have hy2 : b[k]? = some y := by rw [List.getElem?_take_of_lt hlt] at hy; exact hy
    have g3 := bs_at hy2
    have g4 := bs_at (g1.trans hx)
    have g5 : (bs (mixK SD (b.take (opN b)) SD k)).length = opN b := by rw [bs_length]; exact mixK_len hSl hTl hSl (by omega)
    have g6 : setR (bs (mixK SD (b.take (opN b)) SD k)) k [.v (.int .u8 (xb x y))] = bs (mixK SD (b.take (opN b)) SD (k + 1)) := by rw [bs_set (by rw [bs_length] at g5; omega), g2]
    refine awp_skip (awp_seq (awp_block (awp_seq ?_)))
    refine awp_text (by kernel_rfl) ?_
    (refine r_pure (a_move (r := .p _)) rfl rfl ?_)
    (refine r_pure (a_assign (r := .p _)) rfl rfl ?_)
    refine arun_nil ?_
    refine thn_n ?_
    refine awp_draw 6 (by kernel_rfl) ?_
    (refine r_pure (a_move (r := .row _)) rfl rfl ?_)
    (refine r_pure (a_move (r := .p _)) rfl rfl ?_)
    (refine r_run (a_indexAddrR Try.underlying50 sz5 (by omega) (by omega) (show _ = k by omega)) rfl rfl ⟨rfl, trivial⟩ ?_)
    (refine r_run (a_load1r Try.underlying5 rfl g4) rfl rfl ⟨rfl, trivial⟩ ?_)
    (refine r_pure (a_move (r := .p _)) rfl rfl ?_)
    (refine r_pure (a_move (r := .p _)) rfl rfl ?_)
    (refine r_pure (a_indexAddrS Try.underlying50 sz5 (by omega) (by omega) (by rw [Int.toNat_natCast, Nat.mul_one])) rfl rfl ?_)
    (refine r_pure (a_load1p Try.underlying5 rfl (by rw [List.getElem?_drop]; exact g3)) rfl rfl ?_)
    (refine r_pure (a_bits (by simp) (show _ = xb x y from rfl)) rfl rfl ?_)
    (refine r_run (a_indexAddrR Try.underlying50 sz5 (by omega) (by omega) (show _ = k by omega)) rfl rfl ⟨rfl, trivial⟩ ?_)
    (refine r_run (a_storeR (Y := .p _) sz5 rfl rfl (by first | rfl | omega) (by first | omega | (simp; done) | (simp; omega)) g6) rfl rfl ⟨rfl, trivial⟩ ?_)
    refine arun_nil ⟨by kernel_rfl, ?_⟩
    refine inb_n (thn_n ?_)
    refine awp_text (by kernel_rfl) ?_
    (refine r_pure (a_add (by first | exact IntWalk.i64_in _ (by omega) | rfl)) rfl rfl ?_)
    (refine r_pure (a_move (r := .p _)) rfl rfl ?_)
    refine arun_nil ?_
    refine thn_n ?_
    refine ⟨m - 1, by omega, _, re_of id _ _ ?_ ?_ rfl, k + 1, by omega, rfl⟩
    · (repeat (first | exact trivial | (refine ⟨⟨(by first | rfl | (simp; done) | (simp; omega)), rfl⟩, ?_⟩)))
    · exact ⟨⟨rfl, rfl⟩, trivial⟩
  have hge : k = opN b := by simp at h; omega
  clear h
  subst hge
  rw [hfull]
  refine awp_exit (awp_seq (awp_seq ?_))
  refine awp_text (by kernel_rfl) ?_
  (refine r_pure (a_move (r := .p _)) rfl rfl ?_)
  (refine r_pure (a_move (r := .p _)) rfl rfl ?_)
  (refine r_pure (a_move (r := .row _)) rfl rfl ?_)
  (refine r_callV (fun n => 55 + 1000 * n) (hQ) rfl rfl Try.func75 rfl rfl (by first | rfl | simp [AV.noSl, AV.noSlL, AObj.noSl, PV.isV, bs_noSl]) (by first | rfl | simp [AV.noSl, AV.noSlL, AObj.noSl, PV.isV, bs_noSl]) rfl rfl rfl (by first | exact trivial | exact ⟨rfl, trivial⟩ | exact ⟨rfl, rfl, trivial⟩) rfl rfl rfl ?_)
  (refine r_pure (a_move (r := .tup _)) rfl rfl ?_)
  (refine r_pure (a_extract rfl) rfl rfl ?_)
  (refine r_pure (a_extract rfl) rfl rfl ?_)
  (refine r_pure (a_assign (r := .row _)) rfl rfl ?_)
  (refine r_pure (a_assign (r := .p _)) rfl rfl ?_)
  refine arun_nil ?_
  refine awp_seq ?_
  refine awp_text (by kernel_rfl) ?_
  (refine r_pure (a_move (r := .row _)) rfl rfl ?_)
  (refine r_run (a_b2s Try.underlying50 Try.underlying5 Try.underlying9 (src_row) rfl rfl) rfl rfl ⟨rfl, trivial⟩ ?_)
  (refine r_pure (a_move (r := .p _)) rfl rfl ?_)
  (refine r_run (a_b2s Try.underlying50 Try.underlying5 Try.underlying9 (src_sl) rfl rfl) rfl rfl trivial ?_)
  (refine r_pure a_sneq rfl rfl ?_)
  refine arun_nil ?_
  refine thn_n ?_
  have heq : (strOfNums (b.take (opN b) ++ TD.take 16) = strOfNums b) ↔ TD.take 16 = b.drop (opN b) := by
    constructor
    · intro e
      have e2 := nums_inj (isB_app hBt fun x hx => hTB x (List.mem_of_mem_take hx)) hB e
      exact (List.append_inj (e2.trans (List.take_append_drop (opN b) b).symm) rfl).2
    · intro e; rw [e, List.take_append_drop]
  refine awp_cond _ rfl (fun h => ?_) (fun h => ?_)
  · have h4 : ¬ TD.take 16 = b.drop (opN b) := by rw [← heq]; simpa using h
    rw [if_neg h4] at hE
    obtain ⟨e1, e2⟩ := bRes_bad hE (by omega) (opN b) (mixD (b.take (opN b)) SD)
    rw [e1, e2]
    refine awp_seq ?_
    refine awp_text (by kernel_rfl) ?_
    (refine r_pure (a_assign (r := .p _)) rfl rfl ?_)
    (refine r_pure (a_assign (r := .p _)) rfl rfl ?_)
    refine arun_nil ?_
    refine awp_ret (thn_r ?_)
    refine ⟨(by first | exact .inl rfl | exact .inr rfl), _, (fun o => o), (.tmp _ _ _ _ rfl (.tmp _ _ _ _ rfl .nil)), ?_, rfl, ?_, rfl⟩
    · exact rfl
    · exact trivial
  have h4 : TD.take 16 = b.drop (opN b) := by rw [← heq]; simpa using h
  rw [if_pos h4] at hE
  obtain ⟨e1, e2⟩ := bRes_good hE (opN b) (mixD (b.take (opN b)) SD)
  rw [e1, e2]
  refine awp_skip (awp_seq ?_)
  refine awp_text (by kernel_rfl) ?_
  (refine r_pure (a_move (r := .row _)) rfl rfl ?_)
  (refine r_pure (a_assign (r := .row _)) rfl rfl ?_)
  (refine r_pure (a_assign (r := .p _)) rfl rfl ?_)
  refine arun_nil ?_
  refine awp_ret ?_
  refine ⟨(by first | exact .inl rfl | exact .inr rfl), _, (fun _ => 9), (.tmp _ _ _ _ rfl (.tmp _ _ _ _ rfl .nil)), ?_, rfl, ?_, rfl⟩
  · exact rfl
  · exact ⟨⟨rfl, rfl⟩, trivial⟩

end Go.Proofs.Ytckkmfoccefcfaa
