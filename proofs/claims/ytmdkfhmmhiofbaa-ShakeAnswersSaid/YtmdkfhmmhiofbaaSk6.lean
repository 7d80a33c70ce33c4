/- shake.Answer, its reference, the law ShakeAnswers, over data. -/
import Derived.Test.YtmdkfhmmhiofbaaSk5
--%T
namespace Go.Proofs.Ytmdkfhmmhiofbaa
open Go.RowKit Go.Sort
set_option linter.unusedVariables false
set_option linter.unusedSimpArgs false
set_option maxRecDepth 100000

theorem shNonceR_s (s : ByteArray) (hN : noE s = 0) : Fn Try.prog 14 [.p (.v (.string s))] (.tup [.row 0, .p (.v (.int .i64 0))]) [(0, .row 5 1 8 (bs (hexVals s 8)))] := by
  have hB := hexBytes_s s
  obtain ⟨hz, he⟩ := noE_good hN
  obtain ⟨e1, e2⟩ := hexRes_good he
  rw [e1, e2, hz] at hB
  change Fn Try.prog 32 _ _ [(0, .row 5 1 8 (bs (hexVals s 8)))] at hB
  generalize hexVals s 8 = D at *
  refine fn_intro Try.func14 rfl (Nat.le_of_ble_eq_true rfl) fun w0 A => ?_
  refine awp_seq ?_
  refine awp_text (by kernel_rfl) ?_
  (refine r_pure (a_assign (r := .p _)) rfl rfl ?_)
  (refine r_pure (a_assign (r := .p _)) rfl rfl ?_)
  refine arun_nil ?_
  refine awp_seq (awp_seq ?_)
  refine awp_text (by kernel_rfl) ?_
  (refine r_pure (a_move (r := .p _)) rfl rfl ?_)
  (refine r_pure (a_lenStr Try.underlying9) rfl rfl ?_)
  (refine r_pure a_neq rfl rfl ?_)
  refine arun_nil ?_
  refine thn_n ?_
  refine awp_cond _ rfl (fun h => ?_) (fun h => ?_)
  · simp [hz] at h
  refine awp_skip (awp_seq ?_)
  refine awp_text (by kernel_rfl) ?_
  (refine r_pure (a_move (r := .p _)) rfl rfl ?_)
  (refine r_callV (fun n => 8 + 1000 * n) (hB) rfl rfl Try.func32 rfl rfl (by first | rfl | simp [AV.noSl, AV.noSlL, AObj.noSl, PV.isV, bs_noSl]) (by first | rfl | simp [AV.noSl, AV.noSlL, AObj.noSl, PV.isV, bs_noSl]) rfl rfl rfl (by first | exact trivial | exact ⟨rfl, trivial⟩ | exact ⟨rfl, rfl, trivial⟩) rfl rfl rfl ?_)
  (refine r_pure (a_extract rfl) rfl rfl ?_)
  (refine r_pure (a_extract rfl) rfl rfl ?_)
  (refine r_pure (a_assign (r := .row _)) rfl rfl ?_)
  (refine r_pure (a_assign (r := .p _)) rfl rfl ?_)
  refine arun_nil ?_
  refine awp_ret ?_
  refine ⟨(by first | exact .inl rfl | exact .inr rfl), _, (fun _ => 8), (.tmp _ _ _ _ rfl (.tmp _ _ _ _ rfl .nil)), ?_, rfl, ?_, rfl⟩
  · exact rfl
  · exact ⟨⟨rfl, rfl⟩, trivial⟩
theorem stagR_s (k u : ByteArray) (a b c : List Int) (hk : keyE k = 0) (ha : isB a) (hb : isB b) (hc : isB c) (hz : u.size + (a.length + b.length + c.length) ≤ 900) :
    Fn Try.prog 17 [.p (.v (.string k)), .p (.v (.string u)), .p (.sl 3 1 [.sl a.length 1 (bs a), .sl b.length 1 (bs b), .sl c.length 1 (bs c)])] (.tup [.psl 0 0 16 1, .p (.v (.int .i64 0))]) [(0, .row 5 1 32 (bs (macD k (sb u ++ (a ++ b ++ c)))))] := by
  have hJ := bjoin_s [a, b, c] (by intro x hx; simp only [List.mem_cons, List.not_mem_nil, or_false] at hx; rcases hx with rfl | rfl | rfl <;> assumption) (by simp) (by simp) (by rw [join3]; simp only [List.length_append]; omega)
  rw [join3] at hJ
  have hB : isB (sb u ++ (a ++ b ++ c)) := isB_app (sb_isB u) (isB_app (isB_app ha hb) hc)
  have hlen : (sb u ++ (a ++ b ++ c)).length = u.size + (a ++ b ++ c).length := by rw [List.length_append, sb_length]
  have hT := tag_s k (u.size + (a ++ b ++ c).length) (sb u ++ (a ++ b ++ c)) hlen hB
  have hal : (a ++ b ++ c).length = a.length + b.length + c.length := by simp only [List.length_append]
  obtain ⟨e1, e2⟩ := bRes_good (show macE k (u.size + (a ++ b ++ c).length) = 0 by unfold macE; rw [if_pos hk, if_neg (by omega)]) 32 (macD k (sb u ++ (a ++ b ++ c)))
  rw [e1, e2] at hT
  clear e1 e2
  have happ : bs (sb u) ++ bs (a ++ b ++ c) = bs (sb u ++ (a ++ b ++ c)) := bs_appd
  have hJ' : Fn Try.prog 29 [.p (.sl 3 1 [.sl a.length 1 (bs a), .sl b.length 1 (bs b), .sl c.length 1 (bs c)]), .p (.v (.slice none 0 0))] (.p (.sl (a ++ b ++ c).length 1 (bs (a ++ b ++ c)))) [] := hJ
  clear hJ hB hlen
  generalize macD k (sb u ++ (a ++ b ++ c)) = D at *
  generalize a ++ b ++ c = J at *
  refine fn_intro Try.func17 rfl (Nat.le_of_ble_eq_true rfl) fun w0 A => ?_
  refine awp_seq ?_
  refine awp_text (by kernel_rfl) ?_
  (refine r_pure (a_assign (r := .p _)) rfl rfl ?_)
  (refine r_pure (a_assign (r := .p _)) rfl rfl ?_)
  refine arun_nil ?_
  refine awp_seq ?_
  refine awp_text (by kernel_rfl) ?_
  (refine r_pure (a_move (r := .p _)) rfl rfl ?_)
  (refine r_pure (a_move (r := .p _)) rfl rfl ?_)
  (refine r_run (a_s2b 13 Try.underlying9 Try.underlying22 Try.underlying5 (by first | omega | (simp only [maxLen]; omega)) rfl rfl) rfl rfl ⟨rfl, trivial⟩ ?_)
  (refine r_pure (a_move (r := .p _)) rfl rfl ?_)
  (refine r_callS (fun n => 15 + 1000 * n) (hJ') rfl rfl Try.func29 rfl rfl (by first | rfl | simp [AV.okInL, AV.okIn, okInL_map]) rfl rfl rfl (by first | exact trivial | exact ⟨rfl, trivial⟩ | exact ⟨rfl, rfl, trivial⟩) rfl rfl rfl ?_)
  (refine r_run (a_append 16 Try.underlying22 eo5 (src_sl) (by simp only [maxLen]; omega) (by omega) rfl happ) rfl rfl ⟨rfl, rfl, trivial⟩ ?_)
  (refine r_callV (fun n => 17 + 1000 * n) (hT) rfl rfl Try.func37 rfl rfl (by first | rfl | simp [AV.noSl, AV.noSlL, AObj.noSl, PV.isV, bs_noSl]) (by first | rfl | simp [AV.noSl, AV.noSlL, AObj.noSl, PV.isV, bs_noSl]) rfl rfl rfl (by first | exact trivial | exact ⟨rfl, trivial⟩ | exact ⟨rfl, rfl, trivial⟩) rfl rfl rfl ?_)
  (refine r_pure (a_move (r := .tup _)) rfl rfl ?_)
  (refine r_pure (a_extract rfl) rfl rfl ?_)
  (refine r_pure (a_extract rfl) rfl rfl ?_)
  (refine r_pure (a_assign (r := .row _)) rfl rfl ?_)
  (refine r_pure (a_assign (r := .p _)) rfl rfl ?_)
  refine arun_nil ?_
  refine awp_seq (awp_seq ?_)
  refine awp_text (by kernel_rfl) ?_
  (refine r_pure (a_move (r := .p _)) rfl rfl ?_)
  (refine r_pure a_neqT rfl rfl ?_)
  refine arun_nil ?_
  refine thn_n ?_
  refine awp_cond _ rfl (fun h => ?_) (fun h => ?_)
  · cases h
  refine awp_skip (awp_seq ?_)
  refine awp_text (by kernel_rfl) ?_
  (first | refine r_pure (a_move (r := .row _)) rfl rfl ?_ | refine r_pure (a_move (r := .p _)) rfl rfl ?_)
  (first | refine r_run (a_sliceR (L := none) (H := (some (_, _))) Try.underlying22 sz5 rfl ⟨by omega, rfl⟩ (by omega) (by omega) rfl rfl) rfl rfl ⟨rfl, trivial⟩ ?_ | refine r_pure (a_sliceS (L := none) (H := (some (_, _))) Try.underlying22 sz5 rfl ⟨by omega, rfl⟩ (by omega) (by omega) rfl rfl) rfl rfl ?_)
  (first | refine r_pure (a_assign (r := .psl _ _ _ _)) rfl rfl ?_ | refine r_pure (a_assign (r := .p _)) rfl rfl ?_)
  (refine r_pure (a_assign (r := .p _)) rfl rfl ?_)
  refine arun_nil ?_
  refine awp_ret ?_
  refine ⟨(by first | exact .inl rfl | exact .inr rfl), _, (fun _ => 17), (.tmp _ _ _ _ rfl (.tmp _ _ _ _ rfl .nil)), ?_, rfl, ?_, rfl⟩
  · exact rfl
  · exact ⟨⟨rfl, rfl⟩, trivial⟩
theorem answerTagR_s (k u : ByteArray) (to fr : Int) (xs : List Int) (hk : keyE k = 0) (hu : u.size = 16) (hx : xs.length = 8) (hB : isB xs)
    (t0 : -9223372036854775808 ≤ to) (t1 : to ≤ 9223372036854775807) (f0 : -9223372036854775808 ≤ fr) (f1 : fr ≤ 9223372036854775807) :
    Fn Try.prog 25 [.p (.v (.string k)), .p (.v (.string u)), .p (.v (.int .i64 to)), .p (.v (.int .i64 fr)), .p (.sl 8 1 (bs xs))] (.psl 0 0 16 1) [(0, .row 5 1 32 (bs (macD k (ansIn u to fr xs))))] := by
  have hN1 := bigZ_s to t0 t1
  have hN2 := bigZ_s fr f0 f1
  obtain ⟨u0, hu0⟩ : ∃ w, ANSWER ++ u = w := ⟨_, rfl⟩
  obtain ⟨u1, hu1⟩ : ∃ w, u0 ++ strOfNums (beI to) = w := ⟨_, rfl⟩
  obtain ⟨u2, hu2⟩ : ∃ w, u1 ++ strOfNums (beI fr) = w := ⟨_, rfl⟩
  obtain ⟨u3, hu3⟩ : ∃ w, u2 ++ strOfNums xs = w := ⟨_, rfl⟩
  have zA : (strOfNums (beI to)).size = 4 := by rw [nums_size]; rfl
  have zF : (strOfNums (beI fr)).size = 4 := by rw [nums_size]; rfl
  have zX : (strOfNums xs).size = 8 := by rw [nums_size, hx]
  have z0 : u0.size = 22 := by rw [← hu0, cat_size, hu]; rfl
  have z1 : u1.size = 26 := by rw [← hu1, cat_size, z0, zA]
  have z2 : u2.size = 30 := by rw [← hu2, cat_size, z1, zF]
  have z3 : u3.size = 38 := by rw [← hu3, cat_size, z2, zX]
  have zs3 : sb u3 = ansIn u to fr xs := by
    rw [← hu3, sb_cat, sb_nums hB, ← hu2, sb_cat, sb_nums (beI_B fr), ← hu1, sb_cat, sb_nums (beI_B to), ansIn, hu0]
    simp
  have hB2 : isB (ansIn u to fr xs) := isB_app (sb_isB _) (isB_app (isB_app (beI_B to) (beI_B fr)) hB)
  have hlen : (ansIn u to fr xs).length = 38 := by rw [← zs3, sb_length, z3]
  have hT := refTag_s k 38 (ansIn u to fr xs) hlen hB2
  obtain ⟨e1, e2⟩ := bRes_good (show macE k 38 = 0 by unfold macE; rw [if_pos hk, if_neg (by decide)]) 32 (macD k (ansIn u to fr xs))
  rw [e1, e2] at hT
  clear e1 e2 hB2 hlen
  generalize ansIn u to fr xs = Z at *
  generalize macD k Z = D at *
  generalize beI to = BA at *
  generalize beI fr = BF at *
  refine fn_intro Try.func25 rfl (Nat.le_of_ble_eq_true rfl) fun w0 A => ?_
  refine awp_seq ?_
  refine awp_text (by kernel_rfl) ?_
  (refine r_pure (a_assign (r := .p _)) rfl rfl ?_)
  refine arun_nil ?_
  refine awp_seq ?_
  refine awp_draw 4 (by kernel_rfl) ?_
  (refine r_pure (a_move (r := .p _)) rfl rfl ?_)
  (refine r_pure (a_move (r := .p _)) rfl rfl ?_)
  (refine r_pure (a_cat (by rw [hu]; decide) (show (⟨#[97, 110, 115, 119, 101, 114]⟩ : ByteArray) ++ u = u0 from hu0)) rfl rfl ?_)
  (refine r_pure (a_move (r := .p _)) rfl rfl ?_)
  (refine r_callV (fun n => 18 + 1000 * n) (hN1) rfl rfl Try.func41 rfl rfl (by first | rfl | simp [AV.noSl, AV.noSlL, AObj.noSl, PV.isV, bs_noSl]) (by first | rfl | simp [AV.noSl, AV.noSlL, AObj.noSl, PV.isV, bs_noSl]) rfl rfl rfl (by first | exact trivial | exact ⟨rfl, trivial⟩ | exact ⟨rfl, rfl, trivial⟩) rfl rfl rfl ?_)
  (refine r_run (a_b2s Try.underlying22 Try.underlying5 Try.underlying9 (src_row) rfl rfl) rfl rfl ⟨rfl, trivial⟩ ?_)
  (refine r_pure (a_cat (by rw [z0, zA]; decide) hu1) rfl rfl ?_)
  (refine r_pure (a_move (r := .p _)) rfl rfl ?_)
  (refine r_callV (fun n => 22 + 1000 * n) (hN2) rfl rfl Try.func41 rfl rfl (by first | rfl | simp [AV.noSl, AV.noSlL, AObj.noSl, PV.isV, bs_noSl]) (by first | rfl | simp [AV.noSl, AV.noSlL, AObj.noSl, PV.isV, bs_noSl]) rfl rfl rfl (by first | exact trivial | exact ⟨rfl, trivial⟩ | exact ⟨rfl, rfl, trivial⟩) rfl rfl rfl ?_)
  (refine r_run (a_b2s Try.underlying22 Try.underlying5 Try.underlying9 (src_row) rfl rfl) rfl rfl ⟨rfl, trivial⟩ ?_)
  (refine r_pure (a_cat (by rw [z1, zF]; decide) hu2) rfl rfl ?_)
  (refine r_pure (a_move (r := .p _)) rfl rfl ?_)
  (refine r_run (a_b2s Try.underlying22 Try.underlying5 Try.underlying9 (src_sl) rfl rfl) rfl rfl trivial ?_)
  (refine r_pure (a_cat (by rw [z2, zX]; decide) hu3) rfl rfl ?_)
  (refine r_run (a_s2b 28 Try.underlying9 Try.underlying22 Try.underlying5 (by first | omega | (simp only [maxLen]; omega)) z3 zs3) rfl rfl ⟨rfl, trivial⟩ ?_)
  (refine r_callV (fun n => 29 + 1000 * n) (hT) rfl rfl Try.func40 rfl rfl (by first | rfl | simp [AV.noSl, AV.noSlL, AObj.noSl, PV.isV, bs_noSl]) (by first | rfl | simp [AV.noSl, AV.noSlL, AObj.noSl, PV.isV, bs_noSl]) rfl rfl rfl (by first | exact trivial | exact ⟨rfl, trivial⟩ | exact ⟨rfl, rfl, trivial⟩) rfl rfl rfl ?_)
  (refine r_pure (a_move (r := .tup _)) rfl rfl ?_)
  (refine r_pure (a_extract rfl) rfl rfl ?_)
  (refine r_pure (a_extract rfl) rfl rfl ?_)
  (refine r_pure (a_assign (r := .row _)) rfl rfl ?_)
  (refine r_pure (a_assign (r := .p _)) rfl rfl ?_)
  refine arun_nil ⟨by kernel_rfl, ?_⟩
  refine awp_seq ?_
  refine awp_text (by kernel_rfl) ?_
  (first | refine r_pure (a_move (r := .row _)) rfl rfl ?_ | refine r_pure (a_move (r := .p _)) rfl rfl ?_)
  (first | refine r_run (a_sliceR (L := none) (H := (some (_, _))) Try.underlying22 sz5 rfl ⟨by omega, rfl⟩ (by omega) (by omega) rfl rfl) rfl rfl ⟨rfl, trivial⟩ ?_ | refine r_pure (a_sliceS (L := none) (H := (some (_, _))) Try.underlying22 sz5 rfl ⟨by omega, rfl⟩ (by omega) (by omega) rfl rfl) rfl rfl ?_)
  (first | refine r_pure (a_assign (r := .psl _ _ _ _)) rfl rfl ?_ | refine r_pure (a_assign (r := .p _)) rfl rfl ?_)
  refine arun_nil ?_
  refine awp_ret ?_
  refine ⟨(by first | exact .inl rfl | exact .inr rfl), _, (fun _ => 29), (.tmp _ _ _ _ rfl .nil), ?_, rfl, ?_, rfl⟩
  · exact rfl
  · exact ⟨⟨rfl, rfl⟩, trivial⟩
theorem no_s (e : Int) : Fn Try.prog 13 [.p (.v (.int .i64 e))] (.tup [.agg MS0, .agg KY0.cells, .p (.v (.int .i64 e))]) [] := by
  refine fn_intro Try.func13 rfl (Nat.le_of_ble_eq_true rfl) fun w0 A => ?_
  refine awp_seq ?_
  refine awp_text (by kernel_rfl) ?_
  (refine r_run (a_alloc 2 zr24 rfl) rfl rfl ⟨rfl, trivial⟩ ?_)
  (refine r_run (a_alloc 3 zr32 rfl) rfl rfl ⟨rfl, trivial⟩ ?_)
  (refine r_pure (a_assign (r := .p _)) rfl rfl ?_)
  refine arun_nil ?_
  refine awp_seq ?_
  refine awp_text (by kernel_rfl) ?_
  (refine r_pure (b_build pl24 zr24 rfl rfl) rfl rfl ?_)
  (refine r_pure (b_build pl32 zr32 rfl rfl) rfl rfl ?_)
  (refine r_pure (a_move (r := .p _)) rfl rfl ?_)
  (refine r_run (a_storeAll (Y := .agg _) sz24 rfl (by first | exact Nat.eq_of_beq_eq_true rfl | (simp only [AV.cells, List.length_map]; first | assumption | omega)) (Nat.eq_of_beq_eq_true rfl)) rfl rfl ⟨rfl, trivial⟩ ?_)
  (refine r_run (a_storeAll (Y := .agg _) sz32 rfl (by first | exact Nat.eq_of_beq_eq_true rfl | (simp only [AV.cells, List.length_map]; first | assumption | omega)) (Nat.eq_of_beq_eq_true rfl)) rfl rfl ⟨rfl, trivial⟩ ?_)
  (refine r_pure (a_assign (r := .p _)) rfl rfl ?_)
  refine arun_nil ?_
  refine awp_ret ?_
  refine ⟨(by first | exact .inl rfl | exact .inr rfl), _, (fun o => o), (.cellN _ _ _ _ _ _ _ _ _ rfl rfl Try.underlying24 rfl sz24 (by first | assumption | kernel_rfl) (.cellN _ _ _ _ _ _ _ _ _ rfl rfl Try.underlying32 rfl sz32 (by first | assumption | kernel_rfl) (.tmp _ _ _ _ rfl .nil))), ?_, rfl, ?_, rfl⟩
  · exact rfl
  · exact trivial
noncomputable def ansK (a b sh : ByteArray) : ByteArray := if secE a b sh = 0 then secS a b sh else ⟨#[]⟩
noncomputable def ansE (a b sh nc : ByteArray) (m : MS) (mine now : Int) : Int :=
  if greE a b sh m ≠ 0 then greE a b sh m else if noE nc ≠ 0 then noE nc else mkE (ansK a b sh) (greN m) nc false mine m.s now
noncomputable def ansM (a b sh nc : ByteArray) (m : MS) (mine : Int) : MS := ⟨2, mine, m.s, 0, 24, hexVals nc 8 ++ ansT (ansK a b sh) (greN m) m.s mine (hexVals nc 8)⟩
noncomputable def ansR (a b sh nc : ByteArray) (m : MS) (mine now : Int) : AV :=
  if ansE a b sh nc m mine now = 0 then .tup [.agg (ansM a b sh nc m mine).cells, .agg (mkKY (ansK a b sh) (greN m) nc false mine m.s now).cells, .p (.v (.int .i64 0))]
  else .tup [.agg MS0, .agg KY0.cells, .p (.v (.int .i64 (ansE a b sh nc m mine now)))]
theorem ansR_bad {a b sh nc : ByteArray} {m : MS} {mine now e : Int} (h : ansE a b sh nc m mine now = e) (he : e ≠ 0) : ansR a b sh nc m mine now = .tup [.agg MS0, .agg KY0.cells, .p (.v (.int .i64 e))] := by
  subst h; unfold ansR; rw [if_neg he]
theorem ansR_good {a b sh nc : ByteArray} {m : MS} {mine now : Int} (h : ansE a b sh nc m mine now = 0) : ansR a b sh nc m mine now = .tup [.agg (ansM a b sh nc m mine).cells, .agg (mkKY (ansK a b sh) (greN m) nc false mine m.s now).cells, .p (.v (.int .i64 0))] := by
  unfold ansR; rw [if_pos h]
theorem greE_good {a b sh : ByteArray} {m : MS} (h : greE a b sh m = 0) (hx : m.xs.length = m.n) : 0 ≤ m.s ∧ m.s ≤ 4294967295 ∧ (greN m).size = 16 := by
  unfold greE at h
  split at h
  · exact absurd h (by assumption)
  split at h
  · omega
  rename_i h1 h2
  have h1 : wE m = 0 := Decidable.not_not.1 h1
  have h2 : m.t = 1 := Decidable.not_not.1 h2
  obtain ⟨_, _, s0, s1, _, _, _, _⟩ := wE_good h1
  have hn := wE_n1 h1 h2
  refine ⟨s0, s1, ?_⟩
  rw [greN, hexS_size, List.length_take, hx, hn]; rfl
theorem mkE_key {s u a : ByteArray} {f : Bool} {m t n : Int} (h : mkE s u a f m t n = 0) : keyE s = 0 := by
  unfold mkE at h
  split at h
  · exact absurd h (by assumption)
  · simp_all
set_option maxHeartbeats 8000000 in
theorem answer_s (a b sh nc : ByteArray) (m : MS) (mine now : Int) (hsh : sh.size ≤ 140737488351232) (hx : m.xs.length = m.n) (hB : isB m.xs) (hm : m.n ≤ 140737488351232)
    (m0 : -9223372036854775808 ≤ mine) (m1 : mine ≤ 9223372036854775807) (n0 : -9223372036854775808 ≤ now) (n1 : now ≤ 9223372036854775807) :
    Fn Try.prog 5 [.p (.v (.string a)), .p (.v (.string b)), .p (.v (.string sh)), .agg m.cells, .p (.v (.int .i64 mine)), .p (.v (.string nc)), .p (.v (.int .i64 now))] (ansR a b sh nc m mine now) [] := by
  have hG := greets_s a b sh m hsh hx hB hm
  have hE : ansE a b sh nc m mine now = if greE a b sh m ≠ 0 then greE a b sh m else if noE nc ≠ 0 then noE nc else mkE (ansK a b sh) (greN m) nc false mine m.s now := rfl
  by_cases h1 : greE a b sh m ≠ 0
  · rw [if_pos h1] at hE
    rw [ansR_bad hE h1]
    rw [sRes_bad rfl h1] at hG
    have hNo := no_s (greE a b sh m)
    generalize greE a b sh m = e at *
    refine fn_intro Try.func5 rfl (Nat.le_of_ble_eq_true rfl) fun w0 A => ?_
    refine awp_seq ?_
    refine awp_text (by kernel_rfl) ?_
    (refine r_run (a_box (X := .agg _) 10 rfl) rfl rfl ⟨rfl, trivial⟩ ?_)
    (refine r_run (a_alloc 14 zr24 rfl) rfl rfl ⟨rfl, trivial⟩ ?_)
    (refine r_run (a_alloc 15 zr32 rfl) rfl rfl ⟨rfl, trivial⟩ ?_)
    (refine r_pure (a_assign (r := .p _)) rfl rfl ?_)
    refine arun_nil ?_
    refine awp_seq ?_
    refine awp_text (by kernel_rfl) ?_
    (refine r_pure (a_assign (r := .fn _ _)) rfl rfl ?_)
    refine arun_nil ?_
    refine awp_seq ?_
    refine awp_text (by kernel_rfl) ?_
    (refine r_pure (a_move (r := .p _)) rfl rfl ?_)
    (refine r_pure (a_move (r := .p _)) rfl rfl ?_)
    (refine r_pure (a_move (r := .p _)) rfl rfl ?_)
    (refine r_run (a_loadN Try.underlying24 rfl sz24 (by first | exact Nat.le_of_ble_eq_true rfl | omega | (simp only [AV.cells, List.length_map]; omega)) (by first | exact take_all (by first | assumption | exact Nat.eq_of_beq_eq_true rfl | (simp only [AV.cells, List.length_map]; first | assumption | omega)) | (simp only [List.take_succ_cons, List.take_zero, List.drop_succ_cons, List.drop_zero]; rfl) | rfl)) rfl rfl ⟨rfl, trivial⟩ ?_)
    (refine r_callV (fun n => 31 + 1000 * n) (hG) rfl rfl Try.func4 rfl rfl (by first | rfl | simp [AV.noSl, AV.noSlL, AObj.noSl, PV.isV, bs_noSl]) (by first | rfl | simp [AV.noSl, AV.noSlL, AObj.noSl, PV.isV, bs_noSl]) rfl rfl rfl (by first | exact trivial | exact ⟨rfl, trivial⟩ | exact ⟨rfl, rfl, trivial⟩) rfl rfl rfl ?_)
    (refine r_pure (a_move (r := .tup _)) rfl rfl ?_)
    (refine r_pure (a_extract rfl) rfl rfl ?_)
    (refine r_pure (a_extract rfl) rfl rfl ?_)
    (refine r_pure (a_assign (r := .p _)) rfl rfl ?_)
    (refine r_pure (a_assign (r := .p _)) rfl rfl ?_)
    refine arun_nil ?_
    refine awp_seq (awp_seq ?_)
    refine awp_text (by kernel_rfl) ?_
    (refine r_pure (a_move (r := .p _)) rfl rfl ?_)
    (refine r_pure a_neq rfl rfl ?_)
    refine arun_nil ?_
    refine thn_n ?_
    refine awp_cond _ rfl (fun h => ?_) (fun h => ?_)
    · refine awp_seq ?_
      refine awp_text (by kernel_rfl) ?_
      (refine r_pure (a_move (r := .fn _ _)) rfl rfl ?_)
      (refine r_pure (a_move (r := .p _)) rfl rfl ?_)
      (refine r_callS (fun n => 38 + 1000 * n) (hNo) rfl rfl Try.func13 rfl rfl (by first | rfl | simp [AV.okInL, AV.okIn, okInL_map]) rfl rfl rfl (by first | exact trivial | exact ⟨rfl, trivial⟩ | exact ⟨rfl, rfl, trivial⟩) rfl rfl rfl ?_)
      (refine r_pure (a_extract rfl) rfl rfl ?_)
      (refine r_pure (a_extract rfl) rfl rfl ?_)
      (refine r_pure (a_extract rfl) rfl rfl ?_)
      (refine r_run (a_storeAll (Y := .agg _) sz24 rfl (by first | exact Nat.eq_of_beq_eq_true rfl | (simp only [AV.cells, List.length_map]; first | assumption | omega)) (Nat.eq_of_beq_eq_true rfl)) rfl rfl ⟨rfl, trivial⟩ ?_)
      refine r_run (a_storeAll (Y := .agg KY0.cells) sz32 rfl rfl (Nat.eq_of_beq_eq_true rfl)) rfl rfl ⟨rfl, trivial⟩ ?_
      (refine r_pure (a_assign (r := .p _)) rfl rfl ?_)
      refine arun_nil ?_
      refine awp_ret (thn_r ?_)
      refine ⟨(by first | exact .inl rfl | exact .inr rfl), _, (fun o => o), (.cellN _ _ _ _ _ _ _ _ _ rfl rfl Try.underlying24 rfl sz24 (by first | assumption | kernel_rfl) (.cellN _ _ _ _ _ _ _ _ _ rfl rfl Try.underlying32 rfl sz32 (by first | assumption | kernel_rfl) (.tmp _ _ _ _ rfl .nil))), ?_, rfl, ?_, rfl⟩
      · exact rfl
      · exact trivial
    · exact absurd (by simpa using h) h1
  rw [if_neg h1] at hE
  replace h1 : greE a b sh m = 0 := Decidable.not_not.1 h1
  rw [sRes_good h1] at hG
  obtain ⟨s0, s1, hgz⟩ := greE_good h1 hx
  by_cases h2 : noE nc ≠ 0
  · rw [if_pos h2] at hE
    rw [ansR_bad hE h2]
    have hN := shNonce_s nc
    rw [pRes_bad rfl h2] at hN
    have hNo := no_s (noE nc)
    generalize noE nc = e at *
    refine fn_intro Try.func5 rfl (Nat.le_of_ble_eq_true rfl) fun w0 A => ?_
    refine awp_seq ?_
    refine awp_text (by kernel_rfl) ?_
    (refine r_run (a_box (X := .agg _) 10 rfl) rfl rfl ⟨rfl, trivial⟩ ?_)
    (refine r_run (a_alloc 14 zr24 rfl) rfl rfl ⟨rfl, trivial⟩ ?_)
    (refine r_run (a_alloc 15 zr32 rfl) rfl rfl ⟨rfl, trivial⟩ ?_)
    (refine r_pure (a_assign (r := .p _)) rfl rfl ?_)
    refine arun_nil ?_
    refine awp_seq ?_
    refine awp_text (by kernel_rfl) ?_
    (refine r_pure (a_assign (r := .fn _ _)) rfl rfl ?_)
    refine arun_nil ?_
    refine awp_seq ?_
    refine awp_text (by kernel_rfl) ?_
    (refine r_pure (a_move (r := .p _)) rfl rfl ?_)
    (refine r_pure (a_move (r := .p _)) rfl rfl ?_)
    (refine r_pure (a_move (r := .p _)) rfl rfl ?_)
    (refine r_run (a_loadN Try.underlying24 rfl sz24 (by first | exact Nat.le_of_ble_eq_true rfl | omega | (simp only [AV.cells, List.length_map]; omega)) (by first | exact take_all (by first | assumption | exact Nat.eq_of_beq_eq_true rfl | (simp only [AV.cells, List.length_map]; first | assumption | omega)) | (simp only [List.take_succ_cons, List.take_zero, List.drop_succ_cons, List.drop_zero]; rfl) | rfl)) rfl rfl ⟨rfl, trivial⟩ ?_)
    (refine r_callV (fun n => 31 + 1000 * n) (hG) rfl rfl Try.func4 rfl rfl (by first | rfl | simp [AV.noSl, AV.noSlL, AObj.noSl, PV.isV, bs_noSl]) (by first | rfl | simp [AV.noSl, AV.noSlL, AObj.noSl, PV.isV, bs_noSl]) rfl rfl rfl (by first | exact trivial | exact ⟨rfl, trivial⟩ | exact ⟨rfl, rfl, trivial⟩) rfl rfl rfl ?_)
    (refine r_pure (a_move (r := .tup _)) rfl rfl ?_)
    (refine r_pure (a_extract rfl) rfl rfl ?_)
    (refine r_pure (a_extract rfl) rfl rfl ?_)
    (refine r_pure (a_assign (r := .p _)) rfl rfl ?_)
    (refine r_pure (a_assign (r := .p _)) rfl rfl ?_)
    refine arun_nil ?_
    refine awp_seq (awp_seq ?_)
    refine awp_text (by kernel_rfl) ?_
    (refine r_pure (a_move (r := .p _)) rfl rfl ?_)
    (refine r_pure a_neqT rfl rfl ?_)
    refine arun_nil ?_
    refine thn_n ?_
    refine awp_cond _ rfl (fun h => ?_) (fun h => ?_)
    · cases h
    refine awp_skip (awp_seq ?_)
    refine awp_text (by kernel_rfl) ?_
    (refine r_pure (a_move (r := .p _)) rfl rfl ?_)
    (refine r_callV (fun n => 44 + 1000 * n) (hN) rfl rfl Try.func14 rfl rfl (by first | rfl | simp [AV.noSl, AV.noSlL, AObj.noSl, PV.isV, bs_noSl]) (by first | rfl | simp [AV.noSl, AV.noSlL, AObj.noSl, PV.isV, bs_noSl]) rfl rfl rfl (by first | exact trivial | exact ⟨rfl, trivial⟩ | exact ⟨rfl, rfl, trivial⟩) rfl rfl rfl ?_)
    (refine r_pure (a_move (r := .tup _)) rfl rfl ?_)
    (refine r_pure (a_extract rfl) rfl rfl ?_)
    (refine r_pure (a_extract rfl) rfl rfl ?_)
    (refine r_pure (a_assign (r := .p _)) rfl rfl ?_)
    (refine r_pure (a_assign (r := .p _)) rfl rfl ?_)
    refine arun_nil ?_
    refine awp_seq (awp_seq ?_)
    refine awp_text (by kernel_rfl) ?_
    (refine r_pure (a_move (r := .p _)) rfl rfl ?_)
    (refine r_pure a_neq rfl rfl ?_)
    refine arun_nil ?_
    refine thn_n ?_
    refine awp_cond _ rfl (fun h => ?_) (fun h => ?_)
    · refine awp_seq ?_
      refine awp_text (by kernel_rfl) ?_
      (refine r_pure (a_move (r := .fn _ _)) rfl rfl ?_)
      (refine r_pure (a_move (r := .p _)) rfl rfl ?_)
      (refine r_callS (fun n => 51 + 1000 * n) (hNo) rfl rfl Try.func13 rfl rfl (by first | rfl | simp [AV.okInL, AV.okIn, okInL_map]) rfl rfl rfl (by first | exact trivial | exact ⟨rfl, trivial⟩ | exact ⟨rfl, rfl, trivial⟩) rfl rfl rfl ?_)
      (refine r_pure (a_extract rfl) rfl rfl ?_)
      (refine r_pure (a_extract rfl) rfl rfl ?_)
      (refine r_pure (a_extract rfl) rfl rfl ?_)
      (refine r_run (a_storeAll (Y := .agg _) sz24 rfl (by first | exact Nat.eq_of_beq_eq_true rfl | (simp only [AV.cells, List.length_map]; first | assumption | omega)) (Nat.eq_of_beq_eq_true rfl)) rfl rfl ⟨rfl, trivial⟩ ?_)
      refine r_run (a_storeAll (Y := .agg KY0.cells) sz32 rfl rfl (Nat.eq_of_beq_eq_true rfl)) rfl rfl ⟨rfl, trivial⟩ ?_
      (refine r_pure (a_assign (r := .p _)) rfl rfl ?_)
      refine arun_nil ?_
      refine awp_ret (thn_r ?_)
      refine ⟨(by first | exact .inl rfl | exact .inr rfl), _, (fun o => o), (.cellN _ _ _ _ _ _ _ _ _ rfl rfl Try.underlying24 rfl sz24 (by first | assumption | kernel_rfl) (.cellN _ _ _ _ _ _ _ _ _ rfl rfl Try.underlying32 rfl sz32 (by first | assumption | kernel_rfl) (.tmp _ _ _ _ rfl .nil))), ?_, rfl, ?_, rfl⟩
      · exact rfl
      · exact trivial
    · exact absurd (by simpa using h) h2
  rw [if_neg h2] at hE
  replace h2 : noE nc = 0 := Decidable.not_not.1 h2
  have hN := shNonceR_s nc h2
  have hNB := noE_B h2
  have hNl := hexVals_len nc 8
  have hS := secret_s a b sh hsh
  unfold sRes at hS
  have hKd : (if secE a b sh = 0 then secS a b sh else ⟨#[]⟩) = ansK a b sh := rfl
  rw [hKd] at hS
  clear hKd
  have hM := make_s (ansK a b sh) (greN m) nc false mine m.s now m0 m1 (by omega) (by omega) n0 n1
  by_cases h3 : mkE (ansK a b sh) (greN m) nc false mine m.s now ≠ 0
  · rw [ansR_bad hE h3]
    rw [mkR_bad rfl h3] at hM
    have hNo := no_s (mkE (ansK a b sh) (greN m) nc false mine m.s now)
    generalize mkE (ansK a b sh) (greN m) nc false mine m.s now = e at *
    generalize hexVals nc 8 = N8 at *
    refine fn_intro Try.func5 rfl (Nat.le_of_ble_eq_true rfl) fun w0 A => ?_
    refine awp_seq ?_
    refine awp_text (by kernel_rfl) ?_
    (refine r_run (a_box (X := .agg _) 10 rfl) rfl rfl ⟨rfl, trivial⟩ ?_)
    (refine r_run (a_alloc 14 zr24 rfl) rfl rfl ⟨rfl, trivial⟩ ?_)
    (refine r_run (a_alloc 15 zr32 rfl) rfl rfl ⟨rfl, trivial⟩ ?_)
    (refine r_pure (a_assign (r := .p _)) rfl rfl ?_)
    refine arun_nil ?_
    refine awp_seq ?_
    refine awp_text (by kernel_rfl) ?_
    (refine r_pure (a_assign (r := .fn _ _)) rfl rfl ?_)
    refine arun_nil ?_
    refine awp_seq ?_
    refine awp_text (by kernel_rfl) ?_
    (refine r_pure (a_move (r := .p _)) rfl rfl ?_)
    (refine r_pure (a_move (r := .p _)) rfl rfl ?_)
    (refine r_pure (a_move (r := .p _)) rfl rfl ?_)
    (refine r_run (a_loadN Try.underlying24 rfl sz24 (by first | exact Nat.le_of_ble_eq_true rfl | omega | (simp only [AV.cells, List.length_map]; omega)) (by first | exact take_all (by first | assumption | exact Nat.eq_of_beq_eq_true rfl | (simp only [AV.cells, List.length_map]; first | assumption | omega)) | (simp only [List.take_succ_cons, List.take_zero, List.drop_succ_cons, List.drop_zero]; rfl) | rfl)) rfl rfl ⟨rfl, trivial⟩ ?_)
    (refine r_callV (fun n => 31 + 1000 * n) (hG) rfl rfl Try.func4 rfl rfl (by first | rfl | simp [AV.noSl, AV.noSlL, AObj.noSl, PV.isV, bs_noSl]) (by first | rfl | simp [AV.noSl, AV.noSlL, AObj.noSl, PV.isV, bs_noSl]) rfl rfl rfl (by first | exact trivial | exact ⟨rfl, trivial⟩ | exact ⟨rfl, rfl, trivial⟩) rfl rfl rfl ?_)
    (refine r_pure (a_move (r := .tup _)) rfl rfl ?_)
    (refine r_pure (a_extract rfl) rfl rfl ?_)
    (refine r_pure (a_extract rfl) rfl rfl ?_)
    (refine r_pure (a_assign (r := .p _)) rfl rfl ?_)
    (refine r_pure (a_assign (r := .p _)) rfl rfl ?_)
    refine arun_nil ?_
    refine awp_seq (awp_seq ?_)
    refine awp_text (by kernel_rfl) ?_
    (refine r_pure (a_move (r := .p _)) rfl rfl ?_)
    (refine r_pure a_neqT rfl rfl ?_)
    refine arun_nil ?_
    refine thn_n ?_
    refine awp_cond _ rfl (fun h => ?_) (fun h => ?_)
    · cases h
    refine awp_skip (awp_seq ?_)
    refine awp_text (by kernel_rfl) ?_
    (refine r_pure (a_move (r := .p _)) rfl rfl ?_)
    (refine r_callV (fun n => 44 + 1000 * n) (hN) rfl rfl Try.func14 rfl rfl (by first | rfl | simp [AV.noSl, AV.noSlL, AObj.noSl, PV.isV, bs_noSl]) (by first | rfl | simp [AV.noSl, AV.noSlL, AObj.noSl, PV.isV, bs_noSl]) rfl rfl rfl (by first | exact trivial | exact ⟨rfl, trivial⟩ | exact ⟨rfl, rfl, trivial⟩) rfl rfl rfl ?_)
    (refine r_pure (a_move (r := .tup _)) rfl rfl ?_)
    (refine r_pure (a_extract rfl) rfl rfl ?_)
    (refine r_pure (a_extract rfl) rfl rfl ?_)
    (refine r_pure (a_assign (r := .row _)) rfl rfl ?_)
    (refine r_pure (a_assign (r := .p _)) rfl rfl ?_)
    refine arun_nil ?_
    refine awp_seq (awp_seq ?_)
    refine awp_text (by kernel_rfl) ?_
    (refine r_pure (a_move (r := .p _)) rfl rfl ?_)
    (refine r_pure a_neqT rfl rfl ?_)
    refine arun_nil ?_
    refine thn_n ?_
    refine awp_cond _ rfl (fun h => ?_) (fun h => ?_)
    · cases h
    refine awp_skip (awp_seq ?_)
    refine awp_text (by kernel_rfl) ?_
    (refine r_pure (a_move (r := .p _)) rfl rfl ?_)
    (refine r_pure (a_move (r := .p _)) rfl rfl ?_)
    (refine r_pure (a_move (r := .p _)) rfl rfl ?_)
    (refine r_callV (fun n => 59 + 1000 * n) (hS) rfl rfl Try.func15 rfl rfl (by first | rfl | simp [AV.noSl, AV.noSlL, AObj.noSl, PV.isV, bs_noSl]) (by first | rfl | simp [AV.noSl, AV.noSlL, AObj.noSl, PV.isV, bs_noSl]) rfl rfl rfl (by first | exact trivial | exact ⟨rfl, trivial⟩ | exact ⟨rfl, rfl, trivial⟩) rfl rfl rfl ?_)
    (refine r_pure (a_move (r := .tup _)) rfl rfl ?_)
    (refine r_pure (a_extract rfl) rfl rfl ?_)
    (refine r_pure (a_extract rfl) rfl rfl ?_)
    (refine r_pure (a_assign (r := .p _)) rfl rfl ?_)
    (refine r_pure (a_assign (r := .p _)) rfl rfl ?_)
    refine arun_nil ?_
    refine awp_seq ?_
    refine awp_text (by kernel_rfl) ?_
    (refine r_pure (a_move (r := .p _)) rfl rfl ?_)
    (refine r_pure (a_move (r := .p _)) rfl rfl ?_)
    (refine r_pure (a_move (r := .p _)) rfl rfl ?_)
    (refine r_pure (a_move (r := .p _)) rfl rfl ?_)
    (refine r_pure (b_fieldAddr fi24_1 rfl) rfl rfl ?_)
    (refine r_run (a_load1 Try.underlying3 rfl (by first | rfl | assumption)) rfl rfl ⟨rfl, trivial⟩ ?_)
    (refine r_pure (a_move (r := .p _)) rfl rfl ?_)
    (refine r_callV (fun n => 70 + 1000 * n) (hM) rfl rfl Try.func16 rfl rfl (by first | rfl | simp [AV.noSl, AV.noSlL, AObj.noSl, PV.isV, bs_noSl]) (by first | rfl | simp [AV.noSl, AV.noSlL, AObj.noSl, PV.isV, bs_noSl]) rfl rfl rfl (by first | exact trivial | exact ⟨rfl, trivial⟩ | exact ⟨rfl, rfl, trivial⟩) rfl rfl rfl ?_)
    (refine r_pure (a_move (r := .tup _)) rfl rfl ?_)
    (refine r_pure (a_extract rfl) rfl rfl ?_)
    (refine r_pure (a_extract rfl) rfl rfl ?_)
    (refine r_run (a_alloc 23 zr32 rfl) rfl rfl ⟨rfl, trivial⟩ ?_)
    refine r_run (a_storeAll (Y := .agg KY0.cells) sz32 rfl rfl (Nat.eq_of_beq_eq_true rfl)) rfl rfl ⟨rfl, trivial⟩ ?_
    (refine r_pure (a_assign (r := .p _)) rfl rfl ?_)
    refine arun_nil ?_
    refine awp_seq (awp_seq ?_)
    refine awp_text (by kernel_rfl) ?_
    (refine r_pure (a_move (r := .p _)) rfl rfl ?_)
    (refine r_pure a_neq rfl rfl ?_)
    refine arun_nil ?_
    refine thn_n ?_
    refine awp_cond _ rfl (fun h => ?_) (fun h => ?_)
    · refine awp_seq ?_
      refine awp_text (by kernel_rfl) ?_
      (refine r_pure (a_move (r := .fn _ _)) rfl rfl ?_)
      (refine r_pure (a_move (r := .p _)) rfl rfl ?_)
      (refine r_callS (fun n => 77 + 1000 * n) (hNo) rfl rfl Try.func13 rfl rfl (by first | rfl | simp [AV.okInL, AV.okIn, okInL_map]) rfl rfl rfl (by first | exact trivial | exact ⟨rfl, trivial⟩ | exact ⟨rfl, rfl, trivial⟩) rfl rfl rfl ?_)
      (refine r_pure (a_extract rfl) rfl rfl ?_)
      (refine r_pure (a_extract rfl) rfl rfl ?_)
      (refine r_pure (a_extract rfl) rfl rfl ?_)
      (refine r_run (a_storeAll (Y := .agg _) sz24 rfl (by first | exact Nat.eq_of_beq_eq_true rfl | (simp only [AV.cells, List.length_map]; first | assumption | omega)) (Nat.eq_of_beq_eq_true rfl)) rfl rfl ⟨rfl, trivial⟩ ?_)
      refine r_run (a_storeAll (Y := .agg KY0.cells) sz32 rfl rfl (Nat.eq_of_beq_eq_true rfl)) rfl rfl ⟨rfl, trivial⟩ ?_
      (refine r_pure (a_assign (r := .p _)) rfl rfl ?_)
      refine arun_nil ?_
      refine awp_ret (thn_r ?_)
      refine ⟨(by first | exact .inl rfl | exact .inr rfl), _, (fun o => o), (.cellN _ _ _ _ _ _ _ _ _ rfl rfl Try.underlying24 rfl sz24 (by first | assumption | kernel_rfl) (.cellN _ _ _ _ _ _ _ _ _ rfl rfl Try.underlying32 rfl sz32 (by first | assumption | kernel_rfl) (.tmp _ _ _ _ rfl .nil))), ?_, rfl, ?_, rfl⟩
      · exact rfl
      · exact trivial
    · exact absurd (by simpa using h) h3
  replace h3 : mkE (ansK a b sh) (greN m) nc false mine m.s now = 0 := Decidable.not_not.1 h3
  rw [h3] at hE
  rw [ansR_good hE]
  rw [mkR_good h3] at hM
  have hKey := mkE_key h3
  obtain ⟨u, hu⟩ : ∃ w, ANSWER ++ greN m = w := ⟨_, rfl⟩
  have hu' : (⟨#[97, 110, 115, 119, 101, 114]⟩ : ByteArray) ++ greN m = u := hu
  have hNa := shNum_s m.s
  have hNb := shNum_s mine
  have hT := stagR_s (ansK a b sh) (ANSWER ++ greN m) (beI m.s) (beI mine) (hexVals nc 8) hKey (beI_B m.s) (beI_B mine) hNB (by rw [hNl, cat_size, hgz]; show (6 : Nat) + 16 + (4 + 4 + 8) ≤ 900; decide)
  rw [hNl] at hT
  change Fn Try.prog 17 [.p (.v (.string (ansK a b sh))), .p (.v (.string (ANSWER ++ greN m))), .p (.sl 3 1 [.sl 4 1 (bs (beI m.s)), .sl 4 1 (bs (beI mine)), .sl 8 1 (bs (hexVals nc 8))])] (.tup [.psl 0 0 16 1, .p (.v (.int .i64 0))]) [(0, .row 5 1 32 (bs (macD (ansK a b sh) (ansIn (greN m) m.s mine (hexVals nc 8)))))] at hT
  rw [hu] at hT
  have hMc : (ansM a b sh nc m mine).cells = [.p (.v (.int .i64 2)), .p (.v (.int .i64 mine)), .p (.v (.int .i64 m.s)), .p (.v (.int .i64 0)), .p (.sl 24 1 (bs (hexVals nc 8 ++ ansT (ansK a b sh) (greN m) m.s mine (hexVals nc 8))))] := rfl
  rw [hMc]
  unfold ansT
  have hD := macD_len (ansK a b sh) (ansIn (greN m) m.s mine (hexVals nc 8))
  clear hMc hu hE h1 h2 h3 hKey
  generalize macD (ansK a b sh) (ansIn (greN m) m.s mine (hexVals nc 8)) = D at *
  generalize mkKY (ansK a b sh) (greN m) nc false mine m.s now = kk at *
  generalize ansK a b sh = K at *
  generalize greN m = GN at *
  generalize hexVals nc 8 = N8 at *
  generalize beI mine = BF at *
  have hmc : m.cells = [.p (.v (.int .i64 m.t)), .p (.v (.int .i64 m.s)), .p (.v (.int .i64 m.r)), .p (.v (.int .i64 m.c)), .p (.sl m.n 1 (bs m.xs))] := rfl
  rw [hmc] at hG ⊢
  generalize beI m.s = BA at *
  have hbl : (bs D).length = 32 := by rw [bs_length]; exact hD
  have happ : bs N8 ++ ((bs D).drop 0).take (16 * 1) = bs (N8 ++ D.take 16) := by
    rw [← bs_appd]
    congr 1
    simp [bs, List.map_take]
  refine fn_intro Try.func5 rfl (Nat.le_of_ble_eq_true rfl) fun w0 A => ?_
  refine awp_seq ?_
  refine awp_text (by kernel_rfl) ?_
  (refine r_run (a_box (X := .agg _) 10 rfl) rfl rfl ⟨rfl, trivial⟩ ?_)
  (refine r_run (a_alloc 14 zr24 rfl) rfl rfl ⟨rfl, trivial⟩ ?_)
  (refine r_run (a_alloc 15 zr32 rfl) rfl rfl ⟨rfl, trivial⟩ ?_)
  (refine r_pure (a_assign (r := .p _)) rfl rfl ?_)
  refine arun_nil ?_
  refine awp_seq ?_
  refine awp_text (by kernel_rfl) ?_
  (refine r_pure (a_assign (r := .fn _ _)) rfl rfl ?_)
  refine arun_nil ?_
  refine awp_seq ?_
  refine awp_text (by kernel_rfl) ?_
  (refine r_pure (a_move (r := .p _)) rfl rfl ?_)
  (refine r_pure (a_move (r := .p _)) rfl rfl ?_)
  (refine r_pure (a_move (r := .p _)) rfl rfl ?_)
  (refine r_run (a_loadN Try.underlying24 rfl sz24 (by first | exact Nat.le_of_ble_eq_true rfl | omega | (simp only [AV.cells, List.length_map]; omega)) (by first | exact take_all (by first | assumption | exact Nat.eq_of_beq_eq_true rfl | (simp only [AV.cells, List.length_map]; first | assumption | omega)) | (simp only [List.take_succ_cons, List.take_zero, List.drop_succ_cons, List.drop_zero]; rfl) | rfl)) rfl rfl ⟨rfl, trivial⟩ ?_)
  (refine r_callV (fun n => 31 + 1000 * n) (hG) rfl rfl Try.func4 rfl rfl (by first | rfl | simp [AV.noSl, AV.noSlL, AObj.noSl, PV.isV, bs_noSl]) (by first | rfl | simp [AV.noSl, AV.noSlL, AObj.noSl, PV.isV, bs_noSl]) rfl rfl rfl (by first | exact trivial | exact ⟨rfl, trivial⟩ | exact ⟨rfl, rfl, trivial⟩) rfl rfl rfl ?_)
  (refine r_pure (a_move (r := .tup _)) rfl rfl ?_)
  (refine r_pure (a_extract rfl) rfl rfl ?_)
  (refine r_pure (a_extract rfl) rfl rfl ?_)
  (refine r_pure (a_assign (r := .p _)) rfl rfl ?_)
  (refine r_pure (a_assign (r := .p _)) rfl rfl ?_)
  refine arun_nil ?_
  refine awp_seq (awp_seq ?_)
  refine awp_text (by kernel_rfl) ?_
  (refine r_pure (a_move (r := .p _)) rfl rfl ?_)
  (refine r_pure a_neqT rfl rfl ?_)
  refine arun_nil ?_
  refine thn_n ?_
  refine awp_cond _ rfl (fun h => ?_) (fun h => ?_)
  · cases h
  refine awp_skip (awp_seq ?_)
  refine awp_text (by kernel_rfl) ?_
  (refine r_pure (a_move (r := .p _)) rfl rfl ?_)
  (refine r_callV (fun n => 44 + 1000 * n) (hN) rfl rfl Try.func14 rfl rfl (by first | rfl | simp [AV.noSl, AV.noSlL, AObj.noSl, PV.isV, bs_noSl]) (by first | rfl | simp [AV.noSl, AV.noSlL, AObj.noSl, PV.isV, bs_noSl]) rfl rfl rfl (by first | exact trivial | exact ⟨rfl, trivial⟩ | exact ⟨rfl, rfl, trivial⟩) rfl rfl rfl ?_)
  (refine r_pure (a_move (r := .tup _)) rfl rfl ?_)
  (refine r_pure (a_extract rfl) rfl rfl ?_)
  (refine r_pure (a_extract rfl) rfl rfl ?_)
  (refine r_pure (a_assign (r := .row _)) rfl rfl ?_)
  (refine r_pure (a_assign (r := .p _)) rfl rfl ?_)
  refine arun_nil ?_
  refine awp_seq (awp_seq ?_)
  refine awp_text (by kernel_rfl) ?_
  (refine r_pure (a_move (r := .p _)) rfl rfl ?_)
  (refine r_pure a_neqT rfl rfl ?_)
  refine arun_nil ?_
  refine thn_n ?_
  refine awp_cond _ rfl (fun h => ?_) (fun h => ?_)
  · cases h
  refine awp_skip (awp_seq ?_)
  refine awp_text (by kernel_rfl) ?_
  (refine r_pure (a_move (r := .p _)) rfl rfl ?_)
  (refine r_pure (a_move (r := .p _)) rfl rfl ?_)
  (refine r_pure (a_move (r := .p _)) rfl rfl ?_)
  (refine r_callV (fun n => 59 + 1000 * n) (hS) rfl rfl Try.func15 rfl rfl (by first | rfl | simp [AV.noSl, AV.noSlL, AObj.noSl, PV.isV, bs_noSl]) (by first | rfl | simp [AV.noSl, AV.noSlL, AObj.noSl, PV.isV, bs_noSl]) rfl rfl rfl (by first | exact trivial | exact ⟨rfl, trivial⟩ | exact ⟨rfl, rfl, trivial⟩) rfl rfl rfl ?_)
  (refine r_pure (a_move (r := .tup _)) rfl rfl ?_)
  (refine r_pure (a_extract rfl) rfl rfl ?_)
  (refine r_pure (a_extract rfl) rfl rfl ?_)
  (refine r_pure (a_assign (r := .p _)) rfl rfl ?_)
  (refine r_pure (a_assign (r := .p _)) rfl rfl ?_)
  refine arun_nil ?_
  refine awp_seq ?_
  refine awp_text (by kernel_rfl) ?_
  (refine r_pure (a_move (r := .p _)) rfl rfl ?_)
  (refine r_pure (a_move (r := .p _)) rfl rfl ?_)
  (refine r_pure (a_move (r := .p _)) rfl rfl ?_)
  (refine r_pure (a_move (r := .p _)) rfl rfl ?_)
  (refine r_pure (b_fieldAddr fi24_1 rfl) rfl rfl ?_)
  (refine r_run (a_load1 Try.underlying3 rfl (by first | rfl | assumption)) rfl rfl ⟨rfl, trivial⟩ ?_)
  (refine r_pure (a_move (r := .p _)) rfl rfl ?_)
  (refine r_callV (fun n => 70 + 1000 * n) (hM) rfl rfl Try.func16 rfl rfl (by first | rfl | simp [AV.noSl, AV.noSlL, AObj.noSl, PV.isV, bs_noSl]) (by first | rfl | simp [AV.noSl, AV.noSlL, AObj.noSl, PV.isV, bs_noSl]) rfl rfl rfl (by first | exact trivial | exact ⟨rfl, trivial⟩ | exact ⟨rfl, rfl, trivial⟩) rfl rfl rfl ?_)
  (refine r_pure (a_move (r := .tup _)) rfl rfl ?_)
  (refine r_pure (a_extract rfl) rfl rfl ?_)
  (refine r_pure (a_extract rfl) rfl rfl ?_)
  (refine r_run (a_alloc 23 zr32 rfl) rfl rfl ⟨rfl, trivial⟩ ?_)
  refine r_run (a_storeAll (Y := .agg kk.cells) sz32 rfl rfl (Nat.eq_of_beq_eq_true rfl)) rfl rfl ⟨rfl, trivial⟩ ?_
  (refine r_pure (a_assign (r := .p _)) rfl rfl ?_)
  refine arun_nil ?_
  refine awp_seq (awp_seq ?_)
  refine awp_text (by kernel_rfl) ?_
  (refine r_pure (a_move (r := .p _)) rfl rfl ?_)
  (refine r_pure a_neqT rfl rfl ?_)
  refine arun_nil ?_
  refine thn_n ?_
  refine awp_cond _ rfl (fun h => ?_) (fun h => ?_)
  · cases h
  refine awp_skip (awp_seq ?_)
  refine awp_text (by kernel_rfl) ?_
  (refine r_pure (a_move (r := .p _)) rfl rfl ?_)
  (refine r_pure (a_move (r := .p _)) rfl rfl ?_)
  (refine r_pure (a_cat (by rw [hgz]; decide) hu') rfl rfl ?_)
  (refine r_pure (b_fieldAddr fi24_1 rfl) rfl rfl ?_)
  (refine r_run (a_load1 Try.underlying3 rfl (by first | rfl | assumption)) rfl rfl ⟨rfl, trivial⟩ ?_)
  (refine r_callS (fun n => 87 + 1000 * n) (hNa) rfl rfl Try.func18 rfl rfl (by first | rfl | simp [AV.okInL, AV.okIn, okInL_map]) rfl rfl rfl (by first | exact trivial | exact ⟨rfl, trivial⟩ | exact ⟨rfl, rfl, trivial⟩) rfl rfl rfl ?_)
  (refine r_pure (a_move (r := .p _)) rfl rfl ?_)
  (refine r_callS (fun n => 89 + 1000 * n) (hNb) rfl rfl Try.func18 rfl rfl (by first | rfl | simp [AV.okInL, AV.okIn, okInL_map]) rfl rfl rfl (by first | exact trivial | exact ⟨rfl, trivial⟩ | exact ⟨rfl, rfl, trivial⟩) rfl rfl rfl ?_)
  (refine r_pure (a_move (r := .row _)) rfl rfl ?_)
  refine r_run (xs := [.p (.sl 4 1 (bs BA)), .p (.sl 4 1 (bs BF)), .row 44]) (a_buildSliceB (es := [.p (.sl 4 1 (bs BA)), .p (.sl 4 1 (bs BF)), .row 44]) 91 Try.underlying56 sz22 zc22 (Nat.le_of_ble_eq_true rfl) (Nat.le_of_ble_eq_true rfl) rfl (by kernel_rfl) (Nat.le_of_ble_eq_true rfl)) (by first | rfl | kernel_rfl) rfl ⟨rfl, trivial⟩ ?_
  refine r_callX (rds := [(91, .live (.box 22 [.p (.sl 4 1 (bs BA)), .p (.sl 4 1 (bs BF)), .row 44])), (44, .live (.row 5 1 8 (bs N8)))]) (fun n => 92 + 1000 * n) hT rfl (show ViewsTo _ [.p (.v (.string K)), .p (.v (.string u)), .psl 91 0 3 1] _ from viewsTo_p (viewsTo_p (viewsTo_box (cs := [.sl 4 1 (bs BA), .sl 4 1 (bs BF), .sl 8 1 (bs N8)]) (.head _) rfl rfl viewsTo_nil))) Try.func17 rfl rfl (by first | rfl | simp [AV.noSl, AV.noSlL, AObj.noSl, PV.isV, bs_noSl]) (by first | rfl | simp [AV.noSl, AV.noSlL, AObj.noSl, PV.isV, bs_noSl]) rfl rfl rfl ⟨rfl, rfl, trivial⟩ ⟨rfl, trivial⟩ rfl rfl rfl ?_
  (refine r_pure (a_move (r := .tup _)) rfl rfl ?_)
  (refine r_pure (a_extract rfl) rfl rfl ?_)
  (refine r_pure (a_extract rfl) rfl rfl ?_)
  (refine r_pure (a_assign (r := .psl _ _ _ _)) rfl rfl ?_)
  (refine r_pure (a_assign (r := .p _)) rfl rfl ?_)
  refine arun_nil ?_
  refine awp_seq ?_
  refine awp_draw 4 (by kernel_rfl) ?_
  (refine r_pure (a_move (r := .p _)) rfl rfl ?_)
  (refine r_pure (b_fieldAddr fi24_1 rfl) rfl rfl ?_)
  (refine r_run (a_load1 Try.underlying3 rfl (by first | rfl | assumption)) rfl rfl ⟨rfl, trivial⟩ ?_)
  (refine r_pure (a_move (r := .row _)) rfl rfl ?_)
  (refine r_pure (a_move (r := .psl _ _ _ _)) rfl rfl ?_)
  (refine r_run (a_append 100 Try.underlying22 eo5 (src_psl (by omega) rfl) (by simp only [maxLen]; omega) (by omega) (show _ = 24 by omega) happ) rfl rfl ⟨rfl, rfl, rfl, trivial⟩ ?_)
  (refine r_pure (b_build pl24 zr24 rfl rfl) rfl rfl ?_)
  (refine r_run (a_loadN Try.underlying32 rfl sz32 (by first | exact Nat.le_of_ble_eq_true rfl | omega | (simp only [AV.cells, List.length_map]; omega)) (by first | exact take_all (by first | assumption | exact Nat.eq_of_beq_eq_true rfl | (simp only [AV.cells, List.length_map]; first | assumption | omega)) | (simp only [List.take_succ_cons, List.take_zero, List.drop_succ_cons, List.drop_zero]; rfl) | rfl)) rfl rfl ⟨rfl, trivial⟩ ?_)
  (refine r_run (a_storeAll (Y := .agg _) sz24 rfl (by first | exact Nat.eq_of_beq_eq_true rfl | (simp only [AV.cells, List.length_map]; first | assumption | omega)) (Nat.eq_of_beq_eq_true rfl)) rfl rfl ⟨rfl, trivial⟩ ?_)
  refine r_run (a_storeAll (Y := .agg kk.cells) sz32 rfl rfl (Nat.eq_of_beq_eq_true rfl)) rfl rfl ⟨rfl, trivial⟩ ?_
  (refine r_pure (a_assign (r := .p _)) rfl rfl ?_)
  refine arun_nil ⟨by kernel_rfl, ?_⟩
  refine thn_n (awp_reO (reo_fzR (cs := bs (N8 ++ D.take 16)) 100 rfl) ?_)
  refine awp_ret ?_
  refine ⟨(by first | exact .inl rfl | exact .inr rfl), _, (fun o => o), (.cellN _ _ _ _ _ _ _ _ _ rfl rfl Try.underlying24 rfl sz24 (by first | assumption | kernel_rfl) (.cellN _ _ _ _ _ _ _ _ _ rfl rfl Try.underlying32 rfl sz32 (by first | assumption | kernel_rfl) (.tmp _ _ _ _ rfl .nil))), ?_, rfl, ?_, rfl⟩
  · exact rfl
  · exact trivial
end Go.Proofs.Ytmdkfhmmhiofbaa
