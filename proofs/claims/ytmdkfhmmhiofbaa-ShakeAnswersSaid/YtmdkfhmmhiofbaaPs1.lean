/- pair.Secret, its reference, and the law PairSecrets, over data. -/
import Derived.Test.YtmdkfhmmhiofbaaPn1
--%T
namespace Go.Proofs.Ytmdkfhmmhiofbaa
open Go.RowKit Go.Sort
set_option linter.unusedVariables false
set_option linter.unusedSimpArgs false
set_option maxRecDepth 100000

/-! two keys' texts, one behind the other -/
theorem sAt_cat {a b : ByteArray} {i : Nat} (hi : i < (a ++ b).size) : sAt (a ++ b) i = if i < a.size then sAt a i else sAt b (i - a.size) := by
  unfold sAt
  rw [sb_cat, List.getD_eq_getElem?_getD, List.getD_eq_getElem?_getD, List.getD_eq_getElem?_getD, List.getElem?_append, sb_length]
  split <;> rfl
theorem hv_cat {a b : ByteArray} {i : Nat} (hi : i < (a ++ b).size) : hv (a ++ b) i = if i < a.size then hv a i else hv b (i - a.size) := by
  unfold hv
  rw [sAt_cat hi]; split <;> rfl
theorem hexVals_cat {a b : ByteArray} (ha : a.size = 64) (hb : b.size = 64) : hexVals (a ++ b) 64 = hexVals a 32 ++ hexVals b 32 := by
  have hs : (a ++ b).size = 128 := by rw [cat_size, ha, hb]
  unfold hexVals
  rw [show (64 : Nat) = 32 + 32 from rfl, List.range_add, List.map_append, List.map_map]
  congr 1
  · refine List.map_congr_left fun i hi => ?_
    have : i < 32 := by simpa using hi
    rw [hv_cat (by omega), hv_cat (by omega), if_pos (by omega), if_pos (by omega)]
  · refine List.map_congr_left fun i hi => ?_
    have : i < 32 := by simpa using hi
    simp only [Function.comp]
    rw [hv_cat (by omega), hv_cat (by omega), if_neg (by omega), if_neg (by omega), show 2 * (32 + i) - a.size = 2 * i by omega, show 2 * (32 + i) + 1 - a.size = 2 * i + 1 by omega]
theorem hexGood_cat {a b : ByteArray} (ha : hexGood a = true) (hb : hexGood b = true) : hexGood (a ++ b) = true := by
  rw [hexGood_iff] at ha hb ⊢
  intro i hi
  rw [hv_cat hi]
  split
  · exact ha i (by assumption)
  · exact hb _ (by rw [cat_size] at hi; omega)
def PAIR4 : List Int := [112, 97, 105, 114]
def lowK (a b : ByteArray) : ByteArray := if sLt a b = true then a else b
def highK (a b : ByteArray) : ByteArray := if sLt a b = true then b else a
def secW (a b : ByteArray) : List Int := shaD (hexVals (lowK a b) 32 ++ hexVals (highK a b) 32)
def secL (sh : ByteArray) : ByteArray := (⟨#[112, 97, 105, 114]⟩ : ByteArray) ++ sh
def secE (a b sh : ByteArray) : Int :=
  if keyE a ≠ 0 then keyE a else if keyE b ≠ 0 then keyE b else if a = b then 6 else if sh ≠ ⟨#[]⟩ ∧ keyE sh ≠ 0 then keyE sh else derE (hexS (secW a b)) (secL sh)
def secS (a b sh : ByteArray) : ByteArray := derS (hexS (secW a b)) (secL sh)
theorem secW_len (a b : ByteArray) : (secW a b).length = 32 := shaD_len _
theorem lowK_or (a b : ByteArray) : (lowK a b = a ∧ highK a b = b) ∨ (lowK a b = b ∧ highK a b = a) := by
  unfold lowK highK; split
  · exact .inl ⟨rfl, rfl⟩
  · exact .inr ⟨rfl, rfl⟩

set_option maxHeartbeats 2000000 in
theorem secret_s (a b sh : ByteArray) (hsh : sh.size ≤ 140737488351232) : Fn Try.prog 15 [.p (.v (.string a)), .p (.v (.string b)), .p (.v (.string sh))] (sRes (secE a b sh) (secS a b sh)) [] := by
  refine fn_intro Try.func15 rfl (Nat.le_of_ble_eq_true rfl) fun w0 A => ?_
  refine awp_seq ?_
  refine awp_text (by kernel_rfl) ?_
  (refine r_pure (a_assign (r := .p _)) rfl rfl ?_)
  (refine r_pure (a_assign (r := .p _)) rfl rfl ?_)
  refine arun_nil ?_
  refine awp_seq (awp_seq ?_)
  refine awp_text (by kernel_rfl) ?_
  (refine r_pure (a_move (r := .p _)) rfl rfl ?_)
  (refine r_pure (a_move (r := .p _)) rfl rfl ?_)
  (refine r_pure (xs := [.p (.v (.string a)), .p (.v (.string b))]) (a_buildA (es := [.p (.v (.string a)), .p (.v (.string b))]) Try.underlying64 zr64 rfl sz9 (by kernel_rfl)) (by first | rfl | kernel_rfl) rfl ?_)
  (refine r_pure (a_move (r := .p _)) rfl rfl ?_)
  refine arun_nil ?_
  refine awp_block ?_
  refine awp_loopR (fun m st => ∃ k : Nat, m + k = 2 ∧ (1 ≤ k → keyE a = 0) ∧ (2 ≤ k → keyE b = 0) ∧ st = St.of [(0, .p (.v (.string a))), (1, .p (.v (.string b))), (2, .p (.v (.string sh))), (20, .agg [.p (.v (.string a)), .p (.v (.string b))]), (21, .p (.v (.int .i64 k)))] []) 2 ?_ ?_
  · refine ⟨_, re_of id _ _ ?_ ?_ rfl, 0, by omega, by omega, by omega, rfl⟩
    · (repeat (first | exact trivial | (refine ⟨⟨(by first | rfl | (simp; done) | (simp; omega)), rfl⟩, ?_⟩)))
    · exact trivial
  rintro m st ⟨k, hk, hk1, hk2, rfl⟩
  refine awp_seq ?_
  refine awp_text (by kernel_rfl) ?_
  (refine r_pure a_lss rfl rfl ?_)
  refine arun_nil ?_
  refine awp_seq ?_
  refine awp_cond _ rfl (fun h => ?_) (fun h => ?_)
  · have hlt : k < 2 := by simp at h; omega
    clear h
    obtain ⟨x, hx, hxa, hxb⟩ : ∃ x : ByteArray, [AV.p (.v (.string a)), AV.p (.v (.string b))][k]? = some (.p (.v (.string x))) ∧ (k = 0 → x = a) ∧ (k = 1 → x = b) := by
      match k, hlt with
      | 0, _ => exact ⟨a, rfl, fun _ => rfl, by omega⟩
      | 1, _ => exact ⟨b, rfl, by omega, fun _ => rfl⟩
    refine awp_skip (awp_seq (awp_block (awp_seq ?_)))
    refine awp_text (by kernel_rfl) ?_
    (refine r_pure (a_index1 Try.underlying64 sz9 Try.underlying9 rfl (by omega) (by omega) (by first | rfl | assumption | ((try simp only [Int.toNat_natCast, Nat.mul_one, Nat.add_zero, Nat.zero_add]); first | assumption | rfl))) rfl rfl ?_)
    (refine r_pure (a_assign (r := .p _)) rfl rfl ?_)
    refine arun_nil ?_
    refine awp_seq ?_
    refine awp_text (by kernel_rfl) ?_
    (refine r_pure (a_move (r := .p _)) rfl rfl ?_)
    (refine r_callV (fun n => 25 + 1000 * n) (hexCheck_s x) rfl rfl Try.func33 rfl rfl (by first | rfl | simp [AV.noSl, AV.noSlL, AObj.noSl, PV.isV, bs_noSl]) (by first | rfl | simp [AV.noSl, AV.noSlL, AObj.noSl, PV.isV, bs_noSl]) rfl rfl rfl (by first | exact trivial | exact ⟨rfl, trivial⟩ | exact ⟨rfl, rfl, trivial⟩) rfl rfl rfl ?_)
    (refine r_pure (a_assign (r := .p _)) rfl rfl ?_)
    refine arun_nil ?_
    refine awp_seq ?_
    refine awp_text (by kernel_rfl) ?_
    (refine r_pure (a_move (r := .p _)) rfl rfl ?_)
    (refine r_pure a_neq rfl rfl ?_)
    refine arun_nil ?_
    refine thn_n ?_
    refine awp_cond _ rfl (fun h => ?_) (fun h => ?_)
    · have hne : keyE x ≠ 0 := by simpa using h
      have hE : secE a b sh = keyE x := by
        unfold secE
        match k, hlt with
        | 0, _ => rw [hxa rfl] at hne ⊢; rw [if_pos hne]
        | 1, _ => rw [hxb rfl] at hne ⊢; rw [if_neg (by simp [hk1 (by omega)]), if_pos hne]
      rw [sRes_bad hE hne]
      refine awp_seq ?_
      refine awp_text (by kernel_rfl) ?_
      (refine r_pure (a_move (r := .p _)) rfl rfl ?_)
      (refine r_pure (a_assign (r := .p _)) rfl rfl ?_)
      (refine r_pure (a_assign (r := .p _)) rfl rfl ?_)
      refine arun_nil ?_
      refine awp_ret (inb_r (thn_r (thn_r (inb_r (thn_r ?_)))))
      refine ⟨(by first | exact .inl rfl | exact .inr rfl), _, (fun o => o), (.tmp _ _ _ _ rfl (.tmp _ _ _ _ rfl .nil)), ?_, rfl, ?_, rfl⟩
      · exact rfl
      · exact trivial
    · have he : keyE x = 0 := by simpa using h
      refine awp_skip (inb_n (thn_n ?_))
      refine awp_text (by kernel_rfl) ?_
      (refine r_pure (a_add (by first | exact IntWalk.i64_in _ (by omega) | rfl)) rfl rfl ?_)
      (refine r_pure (a_move (r := .p _)) rfl rfl ?_)
      refine arun_nil ?_
      refine thn_n ?_
      refine ⟨m - 1, by omega, _, re_of id _ _ ?_ ?_ rfl, k + 1, by omega, ?_, ?_, rfl⟩
      · (repeat (first | exact trivial | (refine ⟨⟨(by first | rfl | (simp; done) | (simp; omega)), rfl⟩, ?_⟩)))
      · exact trivial
      · intro _
        by_cases h0 : k = 0
        · rw [← hxa h0]; exact he
        · exact hk1 (by omega)
      · intro _
        rw [← hxb (by omega)]; exact he
  have hge : k = 2 := by simp at h; omega
  clear h
  subst hge
  have ha := hk1 (by omega)
  have hb := hk2 (by omega)
  have hE : secE a b sh = if a = b then 6 else if sh ≠ ⟨#[]⟩ ∧ keyE sh ≠ 0 then keyE sh else derE (hexS (secW a b)) (secL sh) := by
    unfold secE; rw [if_neg (by simp [ha]), if_neg (by simp [hb])]
  refine awp_exit (awp_seq (awp_seq ?_))
  refine awp_text (by kernel_rfl) ?_
  (refine r_pure (a_move (r := .p _)) rfl rfl ?_)
  (refine r_pure (a_move (r := .p _)) rfl rfl ?_)
  (refine r_pure a_seql rfl rfl ?_)
  refine arun_nil ?_
  refine thn_n ?_
  refine awp_cond _ rfl (fun h => ?_) (fun h => ?_)
  · have hab : a = b := by simpa using h
    rw [if_pos hab] at hE
    rw [sRes_bad hE (by omega)]
    refine awp_seq ?_
    refine awp_text (by kernel_rfl) ?_
    (refine r_pure (a_assign (r := .p _)) rfl rfl ?_)
    (refine r_pure (a_assign (r := .p _)) rfl rfl ?_)
    refine arun_nil ?_
    refine awp_ret (thn_r ?_)
    refine ⟨(by first | exact .inl rfl | exact .inr rfl), _, (fun o => o), (.tmp _ _ _ _ rfl (.tmp _ _ _ _ rfl .nil)), ?_, rfl, ?_, rfl⟩
    · exact rfl
    · exact trivial
  have hab : a ≠ b := by simpa using h
  rw [if_neg hab] at hE
  clear h
  refine awp_skip (awp_seq (awp_seq ?_))
  refine awp_text (by kernel_rfl) ?_
  (refine r_pure (a_move (r := .p _)) rfl rfl ?_)
  (refine r_pure a_sneq rfl rfl ?_)
  refine arun_nil ?_
  refine thn_n ?_
  by_cases hbad : sh ≠ ⟨#[]⟩ ∧ keyE sh ≠ 0
  · rw [if_pos hbad] at hE
    rw [sRes_bad hE hbad.2]
    refine awp_cond _ rfl (fun h => ?_) (fun h => ?_)
    · refine awp_seq ?_
      refine awp_text (by kernel_rfl) ?_
      (refine r_pure (a_move (r := .p _)) rfl rfl ?_)
      (refine r_callV (fun n => 36 + 1000 * n) (hexCheck_s sh) rfl rfl Try.func33 rfl rfl (by first | rfl | simp [AV.noSl, AV.noSlL, AObj.noSl, PV.isV, bs_noSl]) (by first | rfl | simp [AV.noSl, AV.noSlL, AObj.noSl, PV.isV, bs_noSl]) rfl rfl rfl (by first | exact trivial | exact ⟨rfl, trivial⟩ | exact ⟨rfl, rfl, trivial⟩) rfl rfl rfl ?_)
      (refine r_pure (a_assign (r := .p _)) rfl rfl ?_)
      refine arun_nil ?_
      refine awp_seq ?_
      refine awp_text (by kernel_rfl) ?_
      (refine r_pure (a_move (r := .p _)) rfl rfl ?_)
      (refine r_pure a_neq rfl rfl ?_)
      refine arun_nil ?_
      refine thn_n ?_
      refine awp_cond _ rfl (fun h => ?_) (fun h => ?_)
      · refine awp_seq ?_
        refine awp_text (by kernel_rfl) ?_
        (refine r_pure (a_move (r := .p _)) rfl rfl ?_)
        (refine r_pure (a_assign (r := .p _)) rfl rfl ?_)
        (refine r_pure (a_assign (r := .p _)) rfl rfl ?_)
        refine arun_nil ?_
        refine awp_ret (thn_r ?_)
        refine ⟨(by first | exact .inl rfl | exact .inr rfl), _, (fun o => o), (.tmp _ _ _ _ rfl (.tmp _ _ _ _ rfl .nil)), ?_, rfl, ?_, rfl⟩
        · exact rfl
        · exact trivial
      · exact absurd (by simpa using h) hbad.2
    · exact absurd (by simpa using h) hbad.1
  rw [if_neg hbad] at hE
  refine awp_join2 (St.of [(0, .p (.v (.string a))), (1, .p (.v (.string b))), (2, .p (.v (.string sh)))] []) ?_ ?_
  · refine awp_cond _ rfl (fun h => ?_) (fun h => ?_)
    · have hne : sh ≠ ⟨#[]⟩ := by simpa using h
      have hks : keyE sh = 0 := by
        by_cases hk : keyE sh = 0
        · exact hk
        · exact absurd ⟨hne, hk⟩ hbad
      refine awp_seq ?_
      refine awp_text (by kernel_rfl) ?_
      (refine r_pure (a_move (r := .p _)) rfl rfl ?_)
      (refine r_callV (fun n => 36 + 1000 * n) (hexCheck_s sh) rfl rfl Try.func33 rfl rfl (by first | rfl | simp [AV.noSl, AV.noSlL, AObj.noSl, PV.isV, bs_noSl]) (by first | rfl | simp [AV.noSl, AV.noSlL, AObj.noSl, PV.isV, bs_noSl]) rfl rfl rfl (by first | exact trivial | exact ⟨rfl, trivial⟩ | exact ⟨rfl, rfl, trivial⟩) rfl rfl rfl ?_)
      (refine r_pure (a_assign (r := .p _)) rfl rfl ?_)
      refine arun_nil ?_
      refine awp_seq ?_
      refine awp_text (by kernel_rfl) ?_
      (refine r_pure (a_move (r := .p _)) rfl rfl ?_)
      (refine r_pure a_neq rfl rfl ?_)
      refine arun_nil ?_
      refine thn_n ?_
      refine awp_cond _ rfl (fun h => ?_) (fun h => ?_)
      · exact absurd hks (by simpa using h)
      · refine awp_skip (thn_n ?_)
        exact re_of id _ _ (by (repeat (first | exact trivial | (refine ⟨⟨(by first | rfl | (simp; done) | (simp; omega)), rfl⟩, ?_⟩)))) trivial rfl
    · refine awp_skip (thn_n ?_)
      exact re_of id _ _ (by (repeat (first | exact trivial | (refine ⟨⟨(by first | rfl | (simp; done) | (simp; omega)), rfl⟩, ?_⟩)))) trivial rfl
  rw [hE]
  have hlo := lowK_or a b
  obtain ⟨az, aE⟩ := keyE_good ha
  obtain ⟨bz, bE⟩ := keyE_good hb
  obtain ⟨lo, hlo2⟩ : ∃ lo, lo = lowK a b := ⟨_, rfl⟩
  obtain ⟨hi, hhi2⟩ : ∃ hi, hi = highK a b := ⟨_, rfl⟩
  have hmin : (if (sLt a b || decide (a = b)) = true then a else b) = lo := by rw [hlo2]; unfold lowK; simp [hab]
  have hmax : (if (!sLt a b) = true then a else b) = hi := by rw [hhi2]; unfold highK; cases sLt a b <;> rfl
  have hlz : lo.size = 64 ∧ hexE lo = 0 ∧ hi.size = 64 ∧ hexE hi = 0 := by
    rw [hlo2, hhi2]
    rcases hlo with ⟨h1, h2⟩ | ⟨h1, h2⟩ <;> rw [h1, h2]
    · exact ⟨az, aE, bz, bE⟩
    · exact ⟨bz, bE, az, aE⟩
  obtain ⟨lz, lE, hz, hhE⟩ := hlz
  have hW : secW a b = shaD (hexVals lo 32 ++ hexVals hi 32) := by rw [hlo2, hhi2]; rfl
  have hWl := secW_len a b
  have hWB : isB (secW a b) := shaD_B _
  have hH1 := hexBytes_s lo
  obtain ⟨e1, e2⟩ := hexRes_good lE
  rw [e1, e2, lz, ← hmin] at hH1
  have hH2 := hexBytes_s hi
  obtain ⟨e1, e2⟩ := hexRes_good hhE
  rw [e1, e2, hz, ← hmax] at hH2
  clear e1 e2
  have hB1 := hexVals_B (k := 32) (hexE_good lE) (by omega)
  have hB2 := hexVals_B (k := 32) (hexE_good hhE) (by omega)
  have hl1 := hexVals_len lo 32
  have hl2 := hexVals_len hi 32
  have hS := sum_s 64 (hexVals lo 32 ++ hexVals hi 32) (by rw [List.length_append, hl1, hl2]) (isB_app hB1 hB2)
  obtain ⟨e1, e2⟩ := bRes_good (show padE 64 = 0 from rfl) 32 (shaD (hexVals lo 32 ++ hexVals hi 32))
  rw [e1, e2, ← bs_appd, ← hW] at hS
  clear e1 e2
  rw [hmin] at hH1
  rw [hmax] at hH2
  change Fn Try.prog 32 _ _ [(0, .row 5 1 32 (bs (hexVals lo 32)))] at hH1
  change Fn Try.prog 32 _ _ [(0, .row 5 1 32 (bs (hexVals hi 32)))] at hH2
  unfold secS
  have hL : (secL sh).size = 4 + sh.size := by unfold secL; rw [cat_size]; rfl
  have hX := text_s 32 (secW a b) hWl hWB (by omega)
  have hshz : sh.size ≤ 64 := by
    by_cases h0 : sh = ⟨#[]⟩
    · rw [h0]; exact Nat.zero_le _
    · by_cases hk : keyE sh = 0
      · exact Nat.le_of_eq (keyE_good hk).1
      · exact absurd ⟨h0, hk⟩ hbad
  have hDr := derive_s (hexS (secW a b)) (secL sh) (by rw [hL]; omega)
  unfold sRes at hDr ⊢
  generalize (if derE (hexS (secW a b)) (secL sh) = 0 then derS (hexS (secW a b)) (secL sh) else ⟨#[]⟩) = RS at *
  generalize derE (hexS (secW a b)) (secL sh) = RE at *
  generalize hexS (secW a b) = HW at *
  generalize secW a b = W at *
  clear hE hbad
  generalize hexVals lo 32 = K1 at *
  generalize hexVals hi 32 = K2 at *
  refine awp_seq ?_
  refine awp_text (by kernel_rfl) ?_
  (refine r_pure (a_move (r := .p _)) rfl rfl ?_)
  (refine r_pure (a_move (r := .p _)) rfl rfl ?_)
  (refine r_pure a_smin rfl rfl ?_)
  (rw [hmin])
  (refine r_callV (fun n => 44 + 1000 * n) (hH1) rfl rfl Try.func32 rfl rfl (by first | rfl | simp [AV.noSl, AV.noSlL, AObj.noSl, PV.isV, bs_noSl]) (by first | rfl | simp [AV.noSl, AV.noSlL, AObj.noSl, PV.isV, bs_noSl]) rfl rfl rfl (by first | exact trivial | exact ⟨rfl, trivial⟩ | exact ⟨rfl, rfl, trivial⟩) rfl rfl rfl ?_)
  (refine r_pure (a_move (r := .tup _)) rfl rfl ?_)
  (refine r_pure (a_extract rfl) rfl rfl ?_)
  (refine r_pure (a_extract rfl) rfl rfl ?_)
  (refine r_pure (a_assign (r := .row _)) rfl rfl ?_)
  (refine r_pure (a_assign (r := .p _)) rfl rfl ?_)
  refine arun_nil ?_
  refine awp_seq ?_
  refine awp_text (by kernel_rfl) ?_
  (refine r_pure (a_move (r := .p _)) rfl rfl ?_)
  (refine r_pure (a_move (r := .p _)) rfl rfl ?_)
  (refine r_pure a_smax rfl rfl ?_)
  (rw [hmax])
  (refine r_callV (fun n => 51 + 1000 * n) (hH2) rfl rfl Try.func32 rfl rfl (by first | rfl | simp [AV.noSl, AV.noSlL, AObj.noSl, PV.isV, bs_noSl]) (by first | rfl | simp [AV.noSl, AV.noSlL, AObj.noSl, PV.isV, bs_noSl]) rfl rfl rfl (by first | exact trivial | exact ⟨rfl, trivial⟩ | exact ⟨rfl, rfl, trivial⟩) rfl rfl rfl ?_)
  (refine r_pure (a_move (r := .tup _)) rfl rfl ?_)
  (refine r_pure (a_extract rfl) rfl rfl ?_)
  (refine r_pure (a_extract rfl) rfl rfl ?_)
  (refine r_pure (a_assign (r := .row _)) rfl rfl ?_)
  (refine r_pure (a_assign (r := .p _)) rfl rfl ?_)
  refine arun_nil ?_
  refine awp_seq ?_
  refine awp_text (by kernel_rfl) ?_
  (refine r_pure (a_move (r := .row _)) rfl rfl ?_)
  (refine r_pure (a_move (r := .row _)) rfl rfl ?_)
  (refine r_run (a_append 57 Try.underlying22 eo5 (src_row) (by simp only [maxLen]; omega) (by omega) rfl rfl) rfl rfl ⟨rfl, rfl, rfl, trivial⟩ ?_)
  (refine r_callV (fun n => 58 + 1000 * n) (hS) rfl rfl Try.func34 rfl rfl (by first | rfl | simp [AV.noSl, AV.noSlL, AObj.noSl, PV.isV, bs_noSl]) (by first | rfl | simp [AV.noSl, AV.noSlL, AObj.noSl, PV.isV, bs_noSl]) rfl rfl rfl (by first | exact trivial | exact ⟨rfl, trivial⟩ | exact ⟨rfl, rfl, trivial⟩) rfl rfl rfl ?_)
  (refine r_pure (a_move (r := .tup _)) rfl rfl ?_)
  (refine r_pure (a_extract rfl) rfl rfl ?_)
  (refine r_pure (a_extract rfl) rfl rfl ?_)
  (refine r_pure (a_assign (r := .row _)) rfl rfl ?_)
  (refine r_pure (a_assign (r := .p _)) rfl rfl ?_)
  refine arun_nil ?_
  refine awp_seq (awp_seq ?_)
  refine awp_text (by kernel_rfl) ?_
  (refine r_pure (a_move (r := .p _)) rfl rfl ?_)
  (refine r_pure a_neqT rfl rfl ?_)
  refine arun_nil ?_
  refine thn_n ?_
  refine awp_cond _ rfl (fun h => ?_) (fun h => ?_)
  · cases h
  refine awp_skip (awp_seq ?_)
  refine awp_text (by kernel_rfl) ?_
  (refine r_pure (a_move (r := .row _)) rfl rfl ?_)
  (refine r_callV (fun n => 65 + 1000 * n) (hX) rfl rfl Try.func11 rfl rfl (by first | rfl | simp [AV.noSl, AV.noSlL, AObj.noSl, PV.isV, bs_noSl]) (by first | rfl | simp [AV.noSl, AV.noSlL, AObj.noSl, PV.isV, bs_noSl]) rfl rfl rfl (by first | exact trivial | exact ⟨rfl, trivial⟩ | exact ⟨rfl, rfl, trivial⟩) rfl rfl rfl ?_)
  (refine r_pure (a_move (r := .p _)) rfl rfl ?_)
  (refine r_pure (a_cat (by rw [show (⟨#[112, 97, 105, 114]⟩ : ByteArray).size = 4 from rfl]; omega) (show _ = secL sh from rfl)) rfl rfl ?_)
  (refine r_callS (fun n => 68 + 1000 * n) (hDr) rfl rfl Try.func35 rfl rfl (by first | rfl | simp [AV.okInL, AV.okIn, okInL_map]) rfl rfl rfl (by first | exact trivial | exact ⟨rfl, trivial⟩ | exact ⟨rfl, rfl, trivial⟩) rfl rfl rfl ?_)
  (refine r_pure (a_extract rfl) rfl rfl ?_)
  (refine r_pure (a_extract rfl) rfl rfl ?_)
  (refine r_pure (a_assign (r := .p _)) rfl rfl ?_)
  (refine r_pure (a_assign (r := .p _)) rfl rfl ?_)
  refine arun_nil ?_
  refine awp_ret ?_
  refine ⟨(by first | exact .inl rfl | exact .inr rfl), _, (fun o => o), (.tmp _ _ _ _ rfl (.tmp _ _ _ _ rfl .nil)), ?_, rfl, ?_, rfl⟩
  · exact rfl
  · exact trivial

set_option maxHeartbeats 2000000 in
theorem refSecret_s (a b sh : ByteArray) (hsh : sh.size ≤ 140737488351232) : Fn Try.prog 23 [.p (.v (.string a)), .p (.v (.string b)), .p (.v (.string sh))] (sRes (secE a b sh) (secS a b sh)) [] := by
  refine fn_intro Try.func23 rfl (Nat.le_of_ble_eq_true rfl) fun w0 A => ?_
  refine awp_seq ?_
  refine awp_text (by kernel_rfl) ?_
  (refine r_pure (a_assign (r := .p _)) rfl rfl ?_)
  (refine r_pure (a_assign (r := .p _)) rfl rfl ?_)
  refine arun_nil ?_
  refine awp_seq (awp_seq ?_)
  refine awp_text (by kernel_rfl) ?_
  (refine r_pure (a_move (r := .p _)) rfl rfl ?_)
  (refine r_callV (fun n => 16 + 1000 * n) (refFault_s a) rfl rfl Try.func43 rfl rfl (by first | rfl | simp [AV.noSl, AV.noSlL, AObj.noSl, PV.isV, bs_noSl]) (by first | rfl | simp [AV.noSl, AV.noSlL, AObj.noSl, PV.isV, bs_noSl]) rfl rfl rfl (by first | exact trivial | exact ⟨rfl, trivial⟩ | exact ⟨rfl, rfl, trivial⟩) rfl rfl rfl ?_)
  (refine r_pure (a_assign (r := .p _)) rfl rfl ?_)
  refine arun_nil ?_
  refine awp_seq ?_
  refine awp_text (by kernel_rfl) ?_
  (refine r_pure (a_move (r := .p _)) rfl rfl ?_)
  (refine r_pure a_neq rfl rfl ?_)
  refine arun_nil ?_
  refine thn_n ?_
  refine awp_cond _ rfl (fun h => ?_) (fun h => ?_)
  · have hne : keyE a ≠ 0 := by simpa using h
    rw [sRes_bad (show secE a b sh = keyE a by unfold secE; rw [if_pos hne]) hne]
    refine awp_seq ?_
    refine awp_text (by kernel_rfl) ?_
    (refine r_pure (a_move (r := .p _)) rfl rfl ?_)
    (refine r_pure (a_assign (r := .p _)) rfl rfl ?_)
    (refine r_pure (a_assign (r := .p _)) rfl rfl ?_)
    refine arun_nil ?_
    refine awp_ret (thn_r ?_)
    refine ⟨(by first | exact .inl rfl | exact .inr rfl), _, (fun o => o), (.tmp _ _ _ _ rfl (.tmp _ _ _ _ rfl .nil)), ?_, rfl, ?_, rfl⟩
    · exact rfl
    · exact trivial
  have ha : keyE a = 0 := by simpa using h
  clear h
  refine awp_skip (awp_seq (awp_seq ?_))
  refine awp_text (by kernel_rfl) ?_
  (refine r_pure (a_move (r := .p _)) rfl rfl ?_)
  (refine r_callV (fun n => 21 + 1000 * n) (refFault_s b) rfl rfl Try.func43 rfl rfl (by first | rfl | simp [AV.noSl, AV.noSlL, AObj.noSl, PV.isV, bs_noSl]) (by first | rfl | simp [AV.noSl, AV.noSlL, AObj.noSl, PV.isV, bs_noSl]) rfl rfl rfl (by first | exact trivial | exact ⟨rfl, trivial⟩ | exact ⟨rfl, rfl, trivial⟩) rfl rfl rfl ?_)
  (refine r_pure (a_assign (r := .p _)) rfl rfl ?_)
  refine arun_nil ?_
  refine awp_seq ?_
  refine awp_text (by kernel_rfl) ?_
  (refine r_pure (a_move (r := .p _)) rfl rfl ?_)
  (refine r_pure a_neq rfl rfl ?_)
  refine arun_nil ?_
  refine thn_n ?_
  refine awp_cond _ rfl (fun h => ?_) (fun h => ?_)
  · have hne : keyE b ≠ 0 := by simpa using h
    rw [sRes_bad (show secE a b sh = keyE b by unfold secE; rw [if_neg (by simp [ha]), if_pos hne]) hne]
    refine awp_seq ?_
    refine awp_text (by kernel_rfl) ?_
    (refine r_pure (a_move (r := .p _)) rfl rfl ?_)
    (refine r_pure (a_assign (r := .p _)) rfl rfl ?_)
    (refine r_pure (a_assign (r := .p _)) rfl rfl ?_)
    refine arun_nil ?_
    refine awp_ret (thn_r ?_)
    refine ⟨(by first | exact .inl rfl | exact .inr rfl), _, (fun o => o), (.tmp _ _ _ _ rfl (.tmp _ _ _ _ rfl .nil)), ?_, rfl, ?_, rfl⟩
    · exact rfl
    · exact trivial
  have hb : keyE b = 0 := by simpa using h
  clear h
  have hE : secE a b sh = if a = b then 6 else if sh ≠ ⟨#[]⟩ ∧ keyE sh ≠ 0 then keyE sh else derE (hexS (secW a b)) (secL sh) := by
    unfold secE; rw [if_neg (by simp [ha]), if_neg (by simp [hb])]
  refine awp_skip (awp_seq (awp_seq ?_))
  refine awp_text (by kernel_rfl) ?_
  (refine r_pure (a_move (r := .p _)) rfl rfl ?_)
  (refine r_pure (a_move (r := .p _)) rfl rfl ?_)
  (refine r_pure a_seql rfl rfl ?_)
  refine arun_nil ?_
  refine thn_n ?_
  refine awp_cond _ rfl (fun h => ?_) (fun h => ?_)
  · have hab : a = b := by simpa using h
    rw [if_pos hab] at hE
    rw [sRes_bad hE (by omega)]
    refine awp_seq ?_
    refine awp_text (by kernel_rfl) ?_
    (refine r_pure (a_assign (r := .p _)) rfl rfl ?_)
    (refine r_pure (a_assign (r := .p _)) rfl rfl ?_)
    refine arun_nil ?_
    refine awp_ret (thn_r ?_)
    refine ⟨(by first | exact .inl rfl | exact .inr rfl), _, (fun o => o), (.tmp _ _ _ _ rfl (.tmp _ _ _ _ rfl .nil)), ?_, rfl, ?_, rfl⟩
    · exact rfl
    · exact trivial
  have hab : a ≠ b := by simpa using h
  rw [if_neg hab] at hE
  clear h
  refine awp_skip (awp_seq (awp_seq ?_))
  refine awp_text (by kernel_rfl) ?_
  (refine r_pure (a_move (r := .p _)) rfl rfl ?_)
  (refine r_pure a_sneq rfl rfl ?_)
  (refine r_pure (a_move (r := .p _)) rfl rfl ?_)
  (refine r_mb2 _ rfl rfl (by (repeat (first | exact stripOK_nil | refine stripOK_mb id ?_ | refine stripOK_p ?_ | refine stripOK_ref ?_ | refine stripOK_row ?_ | refine stripOK_ptr ?_ | refine stripOK_agg ?_ | refine stripOK_mb (by simp_all) ?_ | refine StripOK.plain _ _ rfl ?_))) (fun hb => (a_move (r := .p _))) (fun _ => trivial) ?_)
  (refine r_mb2 _ rfl rfl (by (repeat (first | exact stripOK_nil | refine stripOK_mb id ?_ | refine stripOK_p ?_ | refine stripOK_ref ?_ | refine stripOK_row ?_ | refine stripOK_ptr ?_ | refine stripOK_agg ?_ | refine stripOK_mb (by simp_all) ?_ | refine StripOK.plain _ _ rfl ?_))) (fun _ => a_callS0 Try.func43 rfl rfl (refFault_s sh) (by first | rfl | simp [AV.okInL, AV.okIn, okInL_map]) rfl) (fun _ => trivial) ?_)
  (refine r_mb2 _ rfl rfl (by (repeat (first | exact stripOK_nil | refine stripOK_mb id ?_ | refine stripOK_p ?_ | refine stripOK_ref ?_ | refine stripOK_row ?_ | refine stripOK_ptr ?_ | refine stripOK_agg ?_ | refine stripOK_mb (by simp_all) ?_ | refine StripOK.plain _ _ rfl ?_))) (fun hb => a_neq) (fun _ => trivial) ?_)
  (refine r_pure (a_and (by first | exact id | (simp; done) | grind)) rfl rfl ?_)
  refine arun_nil ?_
  refine thn_n ?_
  refine awp_cond _ rfl (fun h => ?_) (fun h => ?_)
  · have hbad : sh ≠ ⟨#[]⟩ ∧ keyE sh ≠ 0 := by simpa using h
    rw [if_pos hbad] at hE
    rw [sRes_bad hE hbad.2]
    refine awp_seq ?_
    refine awp_text (by kernel_rfl) ?_
    (refine r_pure (a_move (r := .p _)) rfl rfl ?_)
    (refine r_callV (fun n => 36 + 1000 * n) (refFault_s sh) rfl rfl Try.func43 rfl rfl (by first | rfl | simp [AV.noSl, AV.noSlL, AObj.noSl, PV.isV, bs_noSl]) (by first | rfl | simp [AV.noSl, AV.noSlL, AObj.noSl, PV.isV, bs_noSl]) rfl rfl rfl (by first | exact trivial | exact ⟨rfl, trivial⟩ | exact ⟨rfl, rfl, trivial⟩) rfl rfl rfl ?_)
    (refine r_pure (a_assign (r := .p _)) rfl rfl ?_)
    (refine r_pure (a_assign (r := .p _)) rfl rfl ?_)
    refine arun_nil ?_
    refine awp_ret (thn_r ?_)
    refine ⟨(by first | exact .inl rfl | exact .inr rfl), _, (fun o => o), (.tmp _ _ _ _ rfl (.tmp _ _ _ _ rfl .nil)), ?_, rfl, ?_, rfl⟩
    · exact rfl
    · exact trivial
  have hbad : ¬ (sh ≠ ⟨#[]⟩ ∧ keyE sh ≠ 0) := by
    intro ⟨h1, h2⟩
    simp [h1, h2] at h
  clear h
  rw [if_neg hbad] at hE
  rw [hE]
  have hlo := lowK_or a b
  obtain ⟨az, aE⟩ := keyE_good ha
  obtain ⟨bz, bE⟩ := keyE_good hb
  obtain ⟨lo, hlo2⟩ : ∃ lo, lo = lowK a b := ⟨_, rfl⟩
  obtain ⟨hi, hhi2⟩ : ∃ hi, hi = highK a b := ⟨_, rfl⟩
  have hlz : lo.size = 64 ∧ hexE lo = 0 ∧ hi.size = 64 ∧ hexE hi = 0 := by
    rw [hlo2, hhi2]
    rcases hlo with ⟨h1, h2⟩ | ⟨h1, h2⟩ <;> rw [h1, h2]
    · exact ⟨az, aE, bz, bE⟩
    · exact ⟨bz, bE, az, aE⟩
  obtain ⟨lz, lE, hz, hhE⟩ := hlz
  refine awp_skip (awp_seq ?_)
  refine awp_text (by kernel_rfl) ?_
  (refine r_pure (a_move (r := .p _)) rfl rfl ?_)
  (refine r_pure (a_move (r := .p _)) rfl rfl ?_)
  (refine r_pure (a_cat (by omega) rfl) rfl rfl ?_)
  (refine r_pure (a_assign (r := .p _)) rfl rfl ?_)
  refine arun_nil ?_
  refine awp_seq (awp_seq ?_)
  refine awp_text (by kernel_rfl) ?_
  (refine r_pure (a_move (r := .p _)) rfl rfl ?_)
  (refine r_pure (a_move (r := .p _)) rfl rfl ?_)
  (refine r_pure a_slss rfl rfl ?_)
  refine arun_nil ?_
  refine thn_n ?_
  refine awp_join (St.of [(2, .p (.v (.string sh))), (10, .p (.v (.string (lo ++ hi))))] []) ?_ ?_
  · have hnot := sLt_not hab
    refine awp_cond _ rfl (fun h => ?_) (fun h => ?_)
    · rw [h] at hnot
      have e1 : lo = b := by rw [hlo2]; unfold lowK; rw [if_neg (by simpa using hnot.symm)]
      have e2 : hi = a := by rw [hhi2]; unfold highK; rw [if_neg (by simpa using hnot.symm)]
      rw [e1, e2]
      skip
      refine awp_text (by kernel_rfl) ?_
      (refine r_pure (a_move (r := .p _)) rfl rfl ?_)
      (refine r_pure (a_move (r := .p _)) rfl rfl ?_)
      (refine r_pure (a_cat (by omega) rfl) rfl rfl ?_)
      (refine r_pure (a_assign (r := .p _)) rfl rfl ?_)
      refine arun_nil ?_
      exact ⟨rfl, re_of id _ _ (by (repeat (first | exact trivial | (refine ⟨⟨(by first | rfl | (simp; done) | (simp; omega)), rfl⟩, ?_⟩)))) trivial rfl⟩
    · rw [h] at hnot
      have e1 : lo = a := by rw [hlo2]; unfold lowK; rw [if_pos (by simpa using hnot.symm)]
      have e2 : hi = b := by rw [hhi2]; unfold highK; rw [if_pos (by simpa using hnot.symm)]
      rw [e1, e2]
      refine awp_skip ?_
      exact ⟨rfl, re_of id _ _ (by (repeat (first | exact trivial | (refine ⟨⟨(by first | rfl | (simp; done) | (simp; omega)), rfl⟩, ?_⟩)))) trivial rfl⟩
  have hW : secW a b = shaD (hexVals (lo ++ hi) 64) := by rw [hexVals_cat lz hz, hlo2, hhi2]; rfl
  have hWl := secW_len a b
  have hWB : isB (secW a b) := shaD_B _
  have hcz : (lo ++ hi).size = 128 := by rw [cat_size, lz, hz]
  have hcg : hexGood (lo ++ hi) = true := hexGood_cat (hexE_good lE) (hexE_good hhE)
  have hcE : hexE (lo ++ hi) = 0 := by unfold hexE; rw [hcz, if_neg (by omega), if_pos (by omega), if_pos hcg]
  have hH := refBytes_s (lo ++ hi)
  obtain ⟨e1, e2⟩ := hexRes_good hcE
  rw [e1, e2, hcz] at hH
  have hB := hexVals_B (k := 64) hcg (by omega)
  have hl := hexVals_len (lo ++ hi) 64
  have hS := refSum_s 64 (hexVals (lo ++ hi) 64) hl hB
  obtain ⟨e1, e2⟩ := bRes_good (show padE 64 = 0 from rfl) 32 (shaD (hexVals (lo ++ hi) 64))
  rw [e1, e2, ← hW] at hS
  clear e1 e2
  change Fn Try.prog 22 _ _ [(0, .row 5 1 64 (bs (hexVals (lo ++ hi) 64)))] at hH
  unfold secS
  have hL : (secL sh).size = 4 + sh.size := by unfold secL; rw [cat_size]; rfl
  have hX := refText_s 32 (secW a b) hWl hWB (by omega)
  have hshz : sh.size ≤ 64 := by
    by_cases h0 : sh = ⟨#[]⟩
    · rw [h0]; exact Nat.zero_le _
    · by_cases hk : keyE sh = 0
      · exact Nat.le_of_eq (keyE_good hk).1
      · exact absurd ⟨h0, hk⟩ hbad
  have hDr := refDerive_s (hexS (secW a b)) (secL sh) (by rw [hL]; omega)
  unfold sRes at hDr ⊢
  generalize (if derE (hexS (secW a b)) (secL sh) = 0 then derS (hexS (secW a b)) (secL sh) else ⟨#[]⟩) = RS at *
  generalize derE (hexS (secW a b)) (secL sh) = RE at *
  generalize hexS (secW a b) = HW at *
  generalize secW a b = W at *
  clear hE hbad
  generalize hexVals (lo ++ hi) 64 = K1 at *
  refine awp_seq ?_
  refine awp_text (by kernel_rfl) ?_
  (refine r_pure (a_move (r := .p _)) rfl rfl ?_)
  (refine r_callV (fun n => 48 + 1000 * n) (hH) rfl rfl Try.func22 rfl rfl (by first | rfl | simp [AV.noSl, AV.noSlL, AObj.noSl, PV.isV, bs_noSl]) (by first | rfl | simp [AV.noSl, AV.noSlL, AObj.noSl, PV.isV, bs_noSl]) rfl rfl rfl (by first | exact trivial | exact ⟨rfl, trivial⟩ | exact ⟨rfl, rfl, trivial⟩) rfl rfl rfl ?_)
  (refine r_pure (a_move (r := .tup _)) rfl rfl ?_)
  (refine r_pure (a_extract rfl) rfl rfl ?_)
  (refine r_pure (a_extract rfl) rfl rfl ?_)
  (refine r_pure (a_assign (r := .row _)) rfl rfl ?_)
  (refine r_pure (a_assign (r := .p _)) rfl rfl ?_)
  refine arun_nil ?_
  refine awp_seq ?_
  refine awp_text (by kernel_rfl) ?_
  (refine r_pure (a_move (r := .row _)) rfl rfl ?_)
  (refine r_callV (fun n => 53 + 1000 * n) (hS) rfl rfl Try.func44 rfl rfl (by first | rfl | simp [AV.noSl, AV.noSlL, AObj.noSl, PV.isV, bs_noSl]) (by first | rfl | simp [AV.noSl, AV.noSlL, AObj.noSl, PV.isV, bs_noSl]) rfl rfl rfl (by first | exact trivial | exact ⟨rfl, trivial⟩ | exact ⟨rfl, rfl, trivial⟩) rfl rfl rfl ?_)
  (refine r_pure (a_move (r := .tup _)) rfl rfl ?_)
  (refine r_pure (a_extract rfl) rfl rfl ?_)
  (refine r_pure (a_extract rfl) rfl rfl ?_)
  (refine r_pure (a_assign (r := .row _)) rfl rfl ?_)
  (refine r_pure (a_assign (r := .p _)) rfl rfl ?_)
  refine arun_nil ?_
  refine awp_seq ?_
  refine awp_text (by kernel_rfl) ?_
  (refine r_pure (a_move (r := .row _)) rfl rfl ?_)
  (refine r_callV (fun n => 57 + 1000 * n) (hX) rfl rfl Try.func20 rfl rfl (by first | rfl | simp [AV.noSl, AV.noSlL, AObj.noSl, PV.isV, bs_noSl]) (by first | rfl | simp [AV.noSl, AV.noSlL, AObj.noSl, PV.isV, bs_noSl]) rfl rfl rfl (by first | exact trivial | exact ⟨rfl, trivial⟩ | exact ⟨rfl, rfl, trivial⟩) rfl rfl rfl ?_)
  (refine r_pure (a_move (r := .p _)) rfl rfl ?_)
  (refine r_pure (a_cat (by rw [show (⟨#[112, 97, 105, 114]⟩ : ByteArray).size = 4 from rfl]; omega) (show _ = secL sh from rfl)) rfl rfl ?_)
  (refine r_callS (fun n => 60 + 1000 * n) (hDr) rfl rfl Try.func45 rfl rfl (by first | rfl | simp [AV.okInL, AV.okIn, okInL_map]) rfl rfl rfl (by first | exact trivial | exact ⟨rfl, trivial⟩ | exact ⟨rfl, rfl, trivial⟩) rfl rfl rfl ?_)
  (refine r_pure (a_extract rfl) rfl rfl ?_)
  (refine r_pure (a_extract rfl) rfl rfl ?_)
  (refine r_pure (a_assign (r := .p _)) rfl rfl ?_)
  (refine r_pure (a_assign (r := .p _)) rfl rfl ?_)
  refine arun_nil ?_
  refine awp_ret ?_
  refine ⟨(by first | exact .inl rfl | exact .inr rfl), _, (fun o => o), (.tmp _ _ _ _ rfl (.tmp _ _ _ _ rfl .nil)), ?_, rfl, ?_, rfl⟩
  · exact rfl
  · exact trivial

end Go.Proofs.Ytmdkfhmmhiofbaa
