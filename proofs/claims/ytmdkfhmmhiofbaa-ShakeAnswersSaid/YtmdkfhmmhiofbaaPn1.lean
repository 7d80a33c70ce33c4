/- pair.Mark, pair.Nonce, their references, and the law PairNames, over data. -/
import Derived.Test.YtmdkfhmmhiofbaaMk1
import Derived.Test.YtmdkfhmmhiofbaaBg1
--%T
namespace Go.Proofs.Ytmdkfhmmhiofbaa
open Go.RowKit Go.Sort
set_option linter.unusedVariables false
set_option linter.unusedSimpArgs false
set_option maxRecDepth 100000

def MARK4 : List Int := [109, 97, 114, 107]
theorem MARK4_B : isB MARK4 := by intro x hx; simp [MARK4] at hx; omega
theorem hexE_good {s : ByteArray} (h : hexE s = 0) : hexGood s = true := by
  unfold hexE at h
  split at h
  · omega
  · split at h
    · split at h
      · assumption
      · omega
    · omega
/-- the digest of a key's mark, whole -/
def markW (s : ByteArray) : List Int := shaD (MARK4 ++ hexVals s 32)
def markD (s : ByteArray) : List Int := (markW s).take 8
theorem markW_len (s : ByteArray) : (markW s).length = 32 := shaD_len _
theorem markD_len (s : ByteArray) : (markD s).length = 8 := by rw [markD, List.length_take, markW_len]; rfl
theorem markD_B (s : ByteArray) : isB (markD s) := fun x hx => shaD_B _ x (List.mem_of_mem_take hx)
/-- bytes that are a part of others, and an error number -/
def pRes (e : Int) (n : Nat) (xs : List Int) : AV := if e = 0 then .tup [.p (.sl n 1 (bs xs)), .p (.v (.int .i64 0))] else .tup [.p (.v (.slice none 0 0)), .p (.v (.int .i64 e))]
theorem pRes_bad {e e' : Int} (h : e = e') (he : e' ≠ 0) (n : Nat) (xs : List Int) : pRes e n xs = .tup [.p (.v (.slice none 0 0)), .p (.v (.int .i64 e'))] := by subst h; unfold pRes; rw [if_neg he]
theorem pRes_good {e : Int} (h : e = 0) (n : Nat) (xs : List Int) : pRes e n xs = .tup [.p (.sl n 1 (bs xs)), .p (.v (.int .i64 0))] := by subst h; rfl

set_option maxHeartbeats 1000000 in
theorem mark_s (s : ByteArray) : Fn Try.prog 28 [.p (.v (.string s))] (bRes (keyE s) ) (bNew (keyE s) 8 (markD s)) := by
  refine fn_intro Try.func28 rfl (Nat.le_of_ble_eq_true rfl) fun w0 A => ?_
  refine awp_seq ?_
  refine awp_text (by kernel_rfl) ?_
  (refine r_pure (a_assign (r := .p _)) rfl rfl ?_)
  (refine r_pure (a_assign (r := .p _)) rfl rfl ?_)
  refine arun_nil ?_
  refine awp_seq (awp_seq ?_)
  refine awp_text (by kernel_rfl) ?_
  (refine r_pure (a_move (r := .p _)) rfl rfl ?_)
  (refine r_callV (fun n => 10 + 1000 * n) (hexCheck_s s) rfl rfl Try.func33 rfl rfl (by first | rfl | simp [AV.noSl, AV.noSlL, AObj.noSl, PV.isV, bs_noSl]) (by first | rfl | simp [AV.noSl, AV.noSlL, AObj.noSl, PV.isV, bs_noSl]) rfl rfl rfl (by first | exact trivial | exact ⟨rfl, trivial⟩ | exact ⟨rfl, rfl, trivial⟩) rfl rfl rfl ?_)
  (refine r_pure (a_assign (r := .p _)) rfl rfl ?_)
  refine arun_nil ?_
  refine awp_seq ?_
  refine awp_text (by kernel_rfl) ?_
  (refine r_pure (a_move (r := .p _)) rfl rfl ?_)
  (refine r_pure a_neq rfl rfl ?_)
  refine arun_nil ?_
  refine thn_n ?_
  refine awp_cond _ rfl (fun h => ?_) (fun h => ?_)
  · have h2 : keyE s ≠ 0 := by simpa using h
    obtain ⟨e1, e2⟩ := bRes_bad (e' := keyE s) rfl h2 8 (markD s)
    rw [e1, e2]
    refine awp_seq ?_
    refine awp_text (by kernel_rfl) ?_
    (refine r_pure (a_move (r := .p _)) rfl rfl ?_)
    (refine r_pure (a_assign (r := .p _)) rfl rfl ?_)
    (refine r_pure (a_assign (r := .p _)) rfl rfl ?_)
    refine arun_nil ?_
    refine awp_ret (thn_r ?_)
    refine ⟨(by first | exact .inl rfl | exact .inr rfl), _, (fun o => o), (.tmp _ _ _ _ rfl (.tmp _ _ _ _ rfl .nil)), ?_, rfl, ?_, rfl⟩
    · exact rfl
    · exact trivial
  have h2 : keyE s = 0 := by simpa using h
  obtain ⟨e1, e2⟩ := bRes_good h2 8 (markD s)
  rw [e1, e2]
  obtain ⟨hsz, hE⟩ := keyE_good h2
  have hH := hexBytes_s s
  obtain ⟨e1, e2⟩ := hexRes_good hE
  rw [e1, e2, hsz] at hH
  clear e1 e2
  have hkl : (hexVals s 32).length = 32 := hexVals_len s 32
  have hkB := hexVals_B (k := 32) (hexE_good hE) (by omega)
  have hS := sum_s 36 (MARK4 ++ hexVals s 32) (by rw [List.length_append, hkl]; rfl) (isB_app MARK4_B hkB)
  obtain ⟨e1, e2⟩ := bRes_good (show padE 36 = 0 from rfl) 32 (shaD (MARK4 ++ hexVals s 32))
  rw [e1, e2, ← bs_appd] at hS
  clear e1 e2
  change Fn Try.prog 34 _ _ [(0, .row 5 1 32 (bs (markW s)))] at hS
  change Fn Try.prog 32 _ _ [(0, .row 5 1 32 (bs (hexVals s 32)))] at hH
  have hWl := markW_len s
  unfold markD
  generalize markW s = W at hS hWl ⊢
  generalize hexVals s 32 = K at hH hS hkl
  have hWl2 : (bs W).length = 32 := by rw [bs_length]; exact hWl
  refine awp_skip (awp_seq ?_)
  refine awp_text (by kernel_rfl) ?_
  (refine r_pure (a_move (r := .p _)) rfl rfl ?_)
  (refine r_callV (fun n => 16 + 1000 * n) (hH) rfl rfl Try.func32 rfl rfl (by first | rfl | simp [AV.noSl, AV.noSlL, AObj.noSl, PV.isV, bs_noSl]) (by first | rfl | simp [AV.noSl, AV.noSlL, AObj.noSl, PV.isV, bs_noSl]) rfl rfl rfl (by first | exact trivial | exact ⟨rfl, trivial⟩ | exact ⟨rfl, rfl, trivial⟩) rfl rfl rfl ?_)
  (refine r_pure (a_move (r := .tup _)) rfl rfl ?_)
  (refine r_pure (a_extract rfl) rfl rfl ?_)
  (refine r_pure (a_extract rfl) rfl rfl ?_)
  (refine r_pure (a_assign (r := .row _)) rfl rfl ?_)
  (refine r_pure (a_assign (r := .p _)) rfl rfl ?_)
  refine arun_nil ?_
  refine awp_seq ?_
  refine awp_text (by kernel_rfl) ?_
  (refine r_run (xs := ((bs MARK4).map AV.p)) (a_buildSlice (es := ((bs MARK4).map AV.p)) (cs := (bs MARK4)) 20 Try.underlying22 sz5 zc5 (Nat.le_of_ble_eq_true rfl) (Nat.le_of_ble_eq_true rfl) rfl (by kernel_rfl) (by kernel_rfl) (by kernel_rfl) (Nat.le_of_ble_eq_true rfl)) (by first | rfl | kernel_rfl) rfl ⟨rfl, trivial⟩ ?_)
  (refine r_run (a_convRow Try.underlying22 Try.underlying5 (by omega)) rfl rfl ⟨rfl, trivial⟩ ?_)
  (refine r_pure (a_move (r := .row _)) rfl rfl ?_)
  (refine r_run (a_append 23 Try.underlying22 eo5 (src_row) (by simp only [maxLen]; omega) (by omega) rfl rfl) rfl rfl ⟨rfl, rfl, rfl, trivial⟩ ?_)
  (refine r_callV (fun n => 24 + 1000 * n) (hS) rfl rfl Try.func34 rfl rfl (by first | rfl | simp [AV.noSl, AV.noSlL, AObj.noSl, PV.isV, bs_noSl]) (by first | rfl | simp [AV.noSl, AV.noSlL, AObj.noSl, PV.isV, bs_noSl]) rfl rfl rfl (by first | exact trivial | exact ⟨rfl, trivial⟩ | exact ⟨rfl, rfl, trivial⟩) rfl rfl rfl ?_)
  (refine r_pure (a_move (r := .tup _)) rfl rfl ?_)
  (refine r_pure (a_extract rfl) rfl rfl ?_)
  (refine r_pure (a_extract rfl) rfl rfl ?_)
  (refine r_pure (a_assign (r := .row _)) rfl rfl ?_)
  (refine r_pure (a_assign (r := .p _)) rfl rfl ?_)
  refine arun_nil ?_
  refine awp_seq (awp_seq ?_)
  refine awp_text (by kernel_rfl) ?_
  (refine r_pure (a_move (r := .p _)) rfl rfl ?_)
  (refine r_pure a_neqT rfl rfl ?_)
  refine arun_nil ?_
  refine thn_n ?_
  refine awp_cond _ rfl (fun h => ?_) (fun h => ?_)
  · cases h
  refine awp_skip (awp_seq ?_)
  refine awp_text (by kernel_rfl) ?_
  (refine r_pure (a_move (r := .row _)) rfl rfl ?_)
  (refine r_run (a_sliceR (L := none) (H := (some (_, _))) Try.underlying22 sz5 rfl ⟨by omega, rfl⟩ (by omega) (by omega) rfl rfl) rfl rfl ⟨rfl, trivial⟩ ?_)
  (refine r_run (a_appendNil 32 Try.underlying22 eo5 (src_psl (by omega) rfl) (by simp only [maxLen]; omega) (by omega)) rfl rfl ⟨rfl, rfl, trivial⟩ ?_)
  (refine r_pure (a_assign (r := .row _)) rfl rfl ?_)
  (refine r_pure (a_assign (r := .p _)) rfl rfl ?_)
  refine arun_nil ?_
  refine awp_ret ?_
  rw [bs_hd]
  refine ⟨(by first | exact .inl rfl | exact .inr rfl), _, (fun _ => 32), (.tmp _ _ _ _ rfl (.tmp _ _ _ _ rfl .nil)), ?_, rfl, ?_, rfl⟩
  · exact rfl
  · exact ⟨⟨rfl, rfl⟩, trivial⟩

theorem view_psl2 {keep : Nat → Bool} {h : Nat → Slot} {o off n size n' size' : Nat} {e : TypeId} {cs ys : List PV} {y : PV} (hk : keep o = false) (ho : h o = .live (.row e size' n' cs)) (hl : off + n * size ≤ cs.length) (hy : (cs.drop off).take (n * size) = ys) :
    (oneA [.psl o off n size, .p y]).view keep h = .tup [.p (.sl n size ys), .p y] := by
  have : sliceView (h o) off n size = .p (.sl n size ys) := by rw [ho]; simp only [sliceView, hl, if_true, hy]
  simp only [oneA, AV.view, AV.viewL, hk, cond_false, this]
set_option maxHeartbeats 1000000 in
theorem refMark_s (s : ByteArray) : Fn Try.prog 39 [.p (.v (.string s))] (pRes (keyE s) 8 (markD s)) [] := by
  refine fn_intro Try.func39 rfl (Nat.le_of_ble_eq_true rfl) fun w0 A => ?_
  refine awp_seq ?_
  refine awp_text (by kernel_rfl) ?_
  (refine r_pure (a_assign (r := .p _)) rfl rfl ?_)
  (refine r_pure (a_assign (r := .p _)) rfl rfl ?_)
  refine arun_nil ?_
  refine awp_seq (awp_seq ?_)
  refine awp_text (by kernel_rfl) ?_
  (refine r_pure (a_move (r := .p _)) rfl rfl ?_)
  (refine r_callV (fun n => 10 + 1000 * n) (refFault_s s) rfl rfl Try.func43 rfl rfl (by first | rfl | simp [AV.noSl, AV.noSlL, AObj.noSl, PV.isV, bs_noSl]) (by first | rfl | simp [AV.noSl, AV.noSlL, AObj.noSl, PV.isV, bs_noSl]) rfl rfl rfl (by first | exact trivial | exact ⟨rfl, trivial⟩ | exact ⟨rfl, rfl, trivial⟩) rfl rfl rfl ?_)
  (refine r_pure (a_assign (r := .p _)) rfl rfl ?_)
  refine arun_nil ?_
  refine awp_seq ?_
  refine awp_text (by kernel_rfl) ?_
  (refine r_pure (a_move (r := .p _)) rfl rfl ?_)
  (refine r_pure a_neq rfl rfl ?_)
  refine arun_nil ?_
  refine thn_n ?_
  refine awp_cond _ rfl (fun h => ?_) (fun h => ?_)
  · have h2 : keyE s ≠ 0 := by simpa using h
    rw [pRes_bad (e' := keyE s) rfl h2]
    refine awp_seq ?_
    refine awp_text (by kernel_rfl) ?_
    (refine r_pure (a_move (r := .p _)) rfl rfl ?_)
    (refine r_pure (a_assign (r := .p _)) rfl rfl ?_)
    (refine r_pure (a_assign (r := .p _)) rfl rfl ?_)
    refine arun_nil ?_
    refine awp_ret (thn_r ?_)
    refine ⟨(by first | exact .inl rfl | exact .inr rfl), _, (fun o => o), (.tmp _ _ _ _ rfl (.tmp _ _ _ _ rfl .nil)), ?_, rfl, ?_, rfl⟩
    · exact rfl
    · exact trivial
  have h2 : keyE s = 0 := by simpa using h
  rw [pRes_good h2]
  obtain ⟨hsz, hE⟩ := keyE_good h2
  have hH := refBytes_s s
  obtain ⟨e1, e2⟩ := hexRes_good hE
  rw [e1, e2, hsz] at hH
  clear e1 e2
  have hkl : (hexVals s 32).length = 32 := hexVals_len s 32
  have hkB := hexVals_B (k := 32) (hexE_good hE) (by omega)
  have hS := refSum_s 36 (MARK4 ++ hexVals s 32) (by rw [List.length_append, hkl]; rfl) (isB_app MARK4_B hkB)
  obtain ⟨e1, e2⟩ := bRes_good (show padE 36 = 0 from rfl) 32 (shaD (MARK4 ++ hexVals s 32))
  rw [e1, e2] at hS
  clear e1 e2
  change Fn Try.prog 44 _ _ [(0, .row 5 1 32 (bs (markW s)))] at hS
  change Fn Try.prog 22 _ _ [(0, .row 5 1 32 (bs (hexVals s 32)))] at hH
  have hWl := markW_len s
  unfold markD
  generalize markW s = W at hS hWl ⊢
  generalize hexVals s 32 = K at hH hS hkl hkB
  have hWl2 : (bs W).length = 32 := by rw [bs_length]; exact hWl
  obtain ⟨u, hu⟩ : ∃ u, (⟨#[109, 97, 114, 107]⟩ : ByteArray) ++ strOfNums K = u := ⟨_, rfl⟩
  have s1 : u.size = 36 := by rw [← hu, cat_size, nums_size, hkl]; rfl
  have s2 : sb u = MARK4 ++ K := by rw [← hu, sb_cat, sb_nums hkB]; rfl
  have s3 : u.size ≤ maxLen := by rw [s1]; simp [maxLen]
  generalize MARK4 ++ K = Z at hS s2
  refine awp_skip (awp_seq ?_)
  refine awp_text (by kernel_rfl) ?_
  (refine r_pure (a_move (r := .p _)) rfl rfl ?_)
  (refine r_callV (fun n => 16 + 1000 * n) (hH) rfl rfl Try.func22 rfl rfl (by first | rfl | simp [AV.noSl, AV.noSlL, AObj.noSl, PV.isV, bs_noSl]) (by first | rfl | simp [AV.noSl, AV.noSlL, AObj.noSl, PV.isV, bs_noSl]) rfl rfl rfl (by first | exact trivial | exact ⟨rfl, trivial⟩ | exact ⟨rfl, rfl, trivial⟩) rfl rfl rfl ?_)
  (refine r_pure (a_move (r := .tup _)) rfl rfl ?_)
  (refine r_pure (a_extract rfl) rfl rfl ?_)
  (refine r_pure (a_extract rfl) rfl rfl ?_)
  (refine r_pure (a_assign (r := .row _)) rfl rfl ?_)
  (refine r_pure (a_assign (r := .p _)) rfl rfl ?_)
  refine arun_nil ?_
  refine awp_seq ?_
  refine awp_text (by kernel_rfl) ?_
  (refine r_pure (a_move (r := .row _)) rfl rfl ?_)
  (refine r_run (a_b2s Try.underlying22 Try.underlying5 Try.underlying9 (src_row) rfl rfl) rfl rfl ⟨rfl, trivial⟩ ?_)
  (refine r_pure (a_cat (by rw [nums_size, hkl]; decide) hu) rfl rfl ?_)
  (refine r_run (a_s2b 23 Try.underlying9 Try.underlying22 Try.underlying5 (by first | omega | (simp only [maxLen]; omega)) s1 s2) rfl rfl ⟨rfl, trivial⟩ ?_)
  (refine r_callV (fun n => 24 + 1000 * n) (hS) rfl rfl Try.func44 rfl rfl (by first | rfl | simp [AV.noSl, AV.noSlL, AObj.noSl, PV.isV, bs_noSl]) (by first | rfl | simp [AV.noSl, AV.noSlL, AObj.noSl, PV.isV, bs_noSl]) rfl rfl rfl (by first | exact trivial | exact ⟨rfl, trivial⟩ | exact ⟨rfl, rfl, trivial⟩) rfl rfl rfl ?_)
  (refine r_pure (a_move (r := .tup _)) rfl rfl ?_)
  (refine r_pure (a_extract rfl) rfl rfl ?_)
  (refine r_pure (a_extract rfl) rfl rfl ?_)
  (refine r_pure (a_assign (r := .row _)) rfl rfl ?_)
  (refine r_pure (a_assign (r := .p _)) rfl rfl ?_)
  refine arun_nil ?_
  refine awp_seq ?_
  refine awp_text (by kernel_rfl) ?_
  (refine r_pure (a_move (r := .row _)) rfl rfl ?_)
  (refine r_run (a_sliceR (L := none) (H := (some (_, _))) Try.underlying22 sz5 rfl ⟨by omega, rfl⟩ (by omega) (by omega) rfl rfl) rfl rfl ⟨rfl, trivial⟩ ?_)
  (refine r_pure (a_assign (r := .psl _ _ _ _)) rfl rfl ?_)
  (refine r_pure (a_assign (r := .p _)) rfl rfl ?_)
  refine arun_nil ?_
  refine awp_ret ?_
  rw [bs_hd]
  refine ⟨(by first | exact .inl rfl | exact .inr rfl), _, (fun o => o), (.tmp _ _ _ _ rfl (.tmp _ _ _ _ rfl .nil)), ?_, rfl, ?_, rfl⟩
  · exact view_psl2 rfl rfl (by omega) rfl
  · exact trivial

def nonE (s : ByteArray) (n : Int) : Int := if n < 0 ∨ 4294967295 < n then 4 else macE s 5
def nonW (s : ByteArray) (n : Int) : List Int := macD s (110 :: beN 4 n.toNat)
def nonS (s : ByteArray) (n : Int) : ByteArray := hexS ((nonW s n).take 8)
theorem beN4 (n : Nat) : beN 4 n = [((n / 2 ^ 24 % 256 : Nat) : Int), ((n / 2 ^ 16 % 256 : Nat) : Int), ((n / 2 ^ 8 % 256 : Nat) : Int), ((n / 2 ^ 0 % 256 : Nat) : Int)] := rfl
theorem macE_5 (s : ByteArray) : macE s 5 = keyE s := by unfold macE; split <;> simp_all

theorem strOf_extract (xs : List Int) (k : Nat) : (strOfNums xs).extract 0 k = strOfNums (xs.take k) := by
  apply ByteArray.ext
  simp [strOfNums, ByteArray.data_extract, List.map_take, List.extract_eq_take_drop]
theorem hexT_take (xs : List Int) (k : Nat) : (hexT xs).take (2 * k) = hexT (xs.take k) := by
  induction xs generalizing k with
  | nil => simp [hexT]
  | cons x xs ih =>
    cases k with
    | zero => simp [hexT]
    | succ k =>
      have := ih k
      simp only [hexT] at this ⊢
      rw [List.flatMap_cons, List.take_succ_cons, List.flatMap_cons, ← this, show 2 * (k + 1) = 2 * k + 1 + 1 by omega]
      simp
theorem hexS_cut (xs : List Int) (k : Nat) : (hexS xs).extract 0 (2 * k) = hexS (xs.take k) := by
  rw [hexS, strOf_extract, hexT_take]; rfl

end Go.Proofs.Ytmdkfhmmhiofbaa
