/- mac.Derive, its reference, and the law MacMakes, over data. -/
import Derived.Test.YtmdkfhmmhiofbaaSl3
import Derived.Test.YtmdkfhmmhiofbaaHt1
import Derived.Test.YtmdkfhmmhiofbaaMa4
--%T
namespace Go.Proofs.Ytmdkfhmmhiofbaa
open Go.RowKit Go.Sort
set_option linter.unusedVariables false
set_option linter.unusedSimpArgs false
set_option maxRecDepth 100000

/-- a text and an error number -/
def sRes (e : Int) (t : ByteArray) : AV := .tup [.p (.v (.string (if e = 0 then t else ⟨#[]⟩))), .p (.v (.int .i64 e))]
theorem sRes_bad {e e' : Int} (h : e = e') (he : e' ≠ 0) (t : ByteArray) : sRes e t = .tup [.p (.v (.string ⟨#[]⟩)), .p (.v (.int .i64 e'))] := by subst h; unfold sRes; rw [if_neg he]
theorem sRes_good {e : Int} (h : e = 0) (t : ByteArray) : sRes e t = .tup [.p (.v (.string t)), .p (.v (.int .i64 0))] := by subst h; rfl
def KEY4 : List Int := [107, 101, 121, 32]
theorem KEY4_B : isB KEY4 := by intro x hx; simp [KEY4] at hx; omega
def derE (s l : ByteArray) : Int := macE s (4 + l.size)
def derS (s l : ByteArray) : ByteArray := hexS (macD s (KEY4 ++ sb l))
theorem hexS_size (xs : List Int) : (hexS xs).size = 2 * xs.length := by rw [hexS, nums_size, hexT_len]
theorem derS_size (s l : ByteArray) : (derS s l).size = 64 := by rw [derS, hexS_size, macD_len]

set_option maxHeartbeats 1000000 in
theorem derive_s (s l : ByteArray) (hl : l.size ≤ 140737488351232) : Fn Try.prog 35 [.p (.v (.string s)), .p (.v (.string l))] (sRes (derE s l) (derS s l)) [] := by
  refine fn_intro Try.func35 rfl (Nat.le_of_ble_eq_true rfl) fun w0 A => ?_
  obtain ⟨u, hu⟩ : ∃ u, (⟨#[107, 101, 121, 32]⟩ : ByteArray) ++ l = u := ⟨_, rfl⟩
  have s1 : u.size = 4 + l.size := by rw [← hu, cat_size]; rfl
  have s3 : u.size ≤ maxLen := by rw [s1]; simp only [maxLen]; omega
  have s2 : sb u = KEY4 ++ sb l := by rw [← hu, sb_cat]; rfl
  have hT := tag_s s (4 + l.size) (KEY4 ++ sb l) (by rw [List.length_append, sb_length]; rfl) (isB_app KEY4_B (sb_isB l))
  have hD := macD_len s (KEY4 ++ sb l)
  have hB := macD_B s (KEY4 ++ sb l)
  unfold derE derS
  generalize macD s (KEY4 ++ sb l) = D at hT hD hB ⊢
  generalize KEY4 ++ sb l = Z at hT s2
  by_cases he : macE s (4 + l.size) ≠ 0
  · obtain ⟨e1, e2⟩ := bRes_bad (e' := macE s (4 + l.size)) rfl he 32 D
    rw [sRes_bad rfl he]
    rw [e1, e2] at hT
    generalize macE s (4 + l.size) = e at hT he
    refine awp_seq ?_
    refine awp_text (by kernel_rfl) ?_
    (refine r_pure (a_assign (r := .p _)) rfl rfl ?_)
    (refine r_pure (a_assign (r := .p _)) rfl rfl ?_)
    refine arun_nil ?_
    refine awp_seq ?_
    refine awp_text (by kernel_rfl) ?_
    (refine r_pure (a_move (r := .p _)) rfl rfl ?_)
    (refine r_pure (a_move (r := .p _)) rfl rfl ?_)
    (refine r_pure (a_cat (by rw [show (⟨#[107, 101, 121, 32]⟩ : ByteArray).size = 4 from rfl]; omega) hu) rfl rfl ?_)
    (refine r_run (a_s2b 12 Try.underlying9 Try.underlying22 Try.underlying5 (by first | omega | (simp only [maxLen]; omega)) s1 s2) rfl rfl ⟨rfl, trivial⟩ ?_)
    (refine r_callV (fun n => 13 + 1000 * n) (hT) rfl rfl Try.func37 rfl rfl (by first | rfl | simp [AV.noSl, AV.noSlL, AObj.noSl, PV.isV, bs_noSl]) (by first | rfl | simp [AV.noSl, AV.noSlL, AObj.noSl, PV.isV, bs_noSl]) rfl rfl rfl (by first | exact trivial | exact ⟨rfl, trivial⟩ | exact ⟨rfl, rfl, trivial⟩) rfl rfl rfl ?_)
    (refine r_pure (a_move (r := .tup _)) rfl rfl ?_)
    (refine r_pure (a_extract rfl) rfl rfl ?_)
    (refine r_pure (a_extract rfl) rfl rfl ?_)
    (refine r_pure (a_assign (r := .p _)) rfl rfl ?_)
    (refine r_pure (a_assign (r := .p _)) rfl rfl ?_)
    refine arun_nil ?_
    refine awp_seq (awp_seq ?_)
    refine awp_text (by kernel_rfl) ?_
    (refine r_pure (a_move (r := .p _)) rfl rfl ?_)
    (refine r_pure a_neq rfl rfl ?_)
    refine arun_nil ?_
    refine thn_n ?_
    refine awp_cond _ rfl (fun h => ?_) (fun h => ?_)
    · refine awp_seq ?_
      refine awp_text (by kernel_rfl) ?_
      (refine r_pure (a_move (r := .p _)) rfl rfl ?_)
      (refine r_pure (a_assign (r := .p _)) rfl rfl ?_)
      (refine r_pure (a_assign (r := .p _)) rfl rfl ?_)
      refine arun_nil ?_
      refine awp_ret (thn_r ?_)
      refine ⟨(by first | exact .inl rfl | exact .inr rfl), _, (fun o => o), (.tmp _ _ _ _ rfl (.tmp _ _ _ _ rfl .nil)), ?_, rfl, ?_, rfl⟩
      · exact rfl
      · exact trivial
    · exact absurd (by simpa using h) he
  have he : macE s (4 + l.size) = 0 := by simpa using he
  obtain ⟨e1, e2⟩ := bRes_good he 32 D
  rw [sRes_good he]
  rw [e1, e2] at hT
  have hX := text_s 32 D hD hB (by omega)
  refine awp_seq ?_
  refine awp_text (by kernel_rfl) ?_
  (refine r_pure (a_assign (r := .p _)) rfl rfl ?_)
  (refine r_pure (a_assign (r := .p _)) rfl rfl ?_)
  refine arun_nil ?_
  refine awp_seq ?_
  refine awp_text (by kernel_rfl) ?_
  (refine r_pure (a_move (r := .p _)) rfl rfl ?_)
  (refine r_pure (a_move (r := .p _)) rfl rfl ?_)
  (refine r_pure (a_cat (by rw [show (⟨#[107, 101, 121, 32]⟩ : ByteArray).size = 4 from rfl]; omega) hu) rfl rfl ?_)
  (refine r_run (a_s2b 12 Try.underlying9 Try.underlying22 Try.underlying5 (by first | omega | (simp only [maxLen]; omega)) s1 s2) rfl rfl ⟨rfl, trivial⟩ ?_)
  (refine r_callV (fun n => 13 + 1000 * n) (hT) rfl rfl Try.func37 rfl rfl (by first | rfl | simp [AV.noSl, AV.noSlL, AObj.noSl, PV.isV, bs_noSl]) (by first | rfl | simp [AV.noSl, AV.noSlL, AObj.noSl, PV.isV, bs_noSl]) rfl rfl rfl (by first | exact trivial | exact ⟨rfl, trivial⟩ | exact ⟨rfl, rfl, trivial⟩) rfl rfl rfl ?_)
  (refine r_pure (a_move (r := .tup _)) rfl rfl ?_)
  (refine r_pure (a_extract rfl) rfl rfl ?_)
  (refine r_pure (a_extract rfl) rfl rfl ?_)
  (refine r_pure (a_assign (r := .row _)) rfl rfl ?_)
  (refine r_pure (a_assign (r := .p _)) rfl rfl ?_)
  refine arun_nil ?_
  refine awp_seq (awp_seq ?_)
  refine awp_text (by kernel_rfl) ?_
  (refine r_pure (a_move (r := .p _)) rfl rfl ?_)
  (refine r_pure a_neqT rfl rfl ?_)
  refine arun_nil ?_
  refine thn_n ?_
  refine awp_cond _ rfl (fun h => ?_) (fun h => ?_)
  · cases h
  refine awp_skip (awp_seq ?_)
  refine awp_text (by kernel_rfl) ?_
  (refine r_pure (a_move (r := .row _)) rfl rfl ?_)
  (refine r_callV (fun n => 20 + 1000 * n) (hX) rfl rfl Try.func11 rfl rfl (by first | rfl | simp [AV.noSl, AV.noSlL, AObj.noSl, PV.isV, bs_noSl]) (by first | rfl | simp [AV.noSl, AV.noSlL, AObj.noSl, PV.isV, bs_noSl]) rfl rfl rfl (by first | exact trivial | exact ⟨rfl, trivial⟩ | exact ⟨rfl, rfl, trivial⟩) rfl rfl rfl ?_)
  (refine r_pure (a_assign (r := .p _)) rfl rfl ?_)
  (refine r_pure (a_assign (r := .p _)) rfl rfl ?_)
  refine arun_nil ?_
  refine awp_ret ?_
  refine ⟨(by first | exact .inl rfl | exact .inr rfl), _, (fun o => o), (.tmp _ _ _ _ rfl (.tmp _ _ _ _ rfl .nil)), ?_, rfl, ?_, rfl⟩
  · exact rfl
  · exact trivial

set_option maxHeartbeats 1000000 in
theorem refDerive_s (s l : ByteArray) (hl : l.size ≤ 140737488351232) : Fn Try.prog 45 [.p (.v (.string s)), .p (.v (.string l))] (sRes (derE s l) (derS s l)) [] := by
  refine fn_intro Try.func45 rfl (Nat.le_of_ble_eq_true rfl) fun w0 A => ?_
  obtain ⟨u, hu⟩ : ∃ u, (⟨#[107, 101, 121, 32]⟩ : ByteArray) ++ l = u := ⟨_, rfl⟩
  have s1 : u.size = 4 + l.size := by rw [← hu, cat_size]; rfl
  have s3 : u.size ≤ maxLen := by rw [s1]; simp only [maxLen]; omega
  have s2 : sb u = KEY4 ++ sb l := by rw [← hu, sb_cat]; rfl
  have hT := refTag_s s (4 + l.size) (KEY4 ++ sb l) (by rw [List.length_append, sb_length]; rfl) (isB_app KEY4_B (sb_isB l))
  have hD := macD_len s (KEY4 ++ sb l)
  have hB := macD_B s (KEY4 ++ sb l)
  unfold derE derS
  generalize macD s (KEY4 ++ sb l) = D at hT hD hB ⊢
  generalize KEY4 ++ sb l = Z at hT s2
  by_cases he : macE s (4 + l.size) ≠ 0
  · obtain ⟨e1, e2⟩ := bRes_bad (e' := macE s (4 + l.size)) rfl he 32 D
    rw [sRes_bad rfl he]
    rw [e1, e2] at hT
    generalize macE s (4 + l.size) = e at hT he
    refine awp_seq ?_
    refine awp_text (by kernel_rfl) ?_
    (refine r_pure (a_assign (r := .p _)) rfl rfl ?_)
    (refine r_pure (a_assign (r := .p _)) rfl rfl ?_)
    refine arun_nil ?_
    refine awp_seq ?_
    refine awp_text (by kernel_rfl) ?_
    (refine r_pure (a_move (r := .p _)) rfl rfl ?_)
    (refine r_pure (a_move (r := .p _)) rfl rfl ?_)
    (refine r_pure (a_cat (by rw [show (⟨#[107, 101, 121, 32]⟩ : ByteArray).size = 4 from rfl]; omega) hu) rfl rfl ?_)
    (refine r_run (a_s2b 12 Try.underlying9 Try.underlying22 Try.underlying5 (by first | omega | (simp only [maxLen]; omega)) s1 s2) rfl rfl ⟨rfl, trivial⟩ ?_)
    (refine r_callV (fun n => 13 + 1000 * n) (hT) rfl rfl Try.func40 rfl rfl (by first | rfl | simp [AV.noSl, AV.noSlL, AObj.noSl, PV.isV, bs_noSl]) (by first | rfl | simp [AV.noSl, AV.noSlL, AObj.noSl, PV.isV, bs_noSl]) rfl rfl rfl (by first | exact trivial | exact ⟨rfl, trivial⟩ | exact ⟨rfl, rfl, trivial⟩) rfl rfl rfl ?_)
    (refine r_pure (a_move (r := .tup _)) rfl rfl ?_)
    (refine r_pure (a_extract rfl) rfl rfl ?_)
    (refine r_pure (a_extract rfl) rfl rfl ?_)
    (refine r_pure (a_assign (r := .p _)) rfl rfl ?_)
    (refine r_pure (a_assign (r := .p _)) rfl rfl ?_)
    refine arun_nil ?_
    refine awp_seq (awp_seq ?_)
    refine awp_text (by kernel_rfl) ?_
    (refine r_pure (a_move (r := .p _)) rfl rfl ?_)
    (refine r_pure a_neq rfl rfl ?_)
    refine arun_nil ?_
    refine thn_n ?_
    refine awp_cond _ rfl (fun h => ?_) (fun h => ?_)
    · refine awp_seq ?_
      refine awp_text (by kernel_rfl) ?_
      (refine r_pure (a_move (r := .p _)) rfl rfl ?_)
      (refine r_pure (a_assign (r := .p _)) rfl rfl ?_)
      (refine r_pure (a_assign (r := .p _)) rfl rfl ?_)
      refine arun_nil ?_
      refine awp_ret (thn_r ?_)
      refine ⟨(by first | exact .inl rfl | exact .inr rfl), _, (fun o => o), (.tmp _ _ _ _ rfl (.tmp _ _ _ _ rfl .nil)), ?_, rfl, ?_, rfl⟩
      · exact rfl
      · exact trivial
    · exact absurd (by simpa using h) he
  have he : macE s (4 + l.size) = 0 := by simpa using he
  obtain ⟨e1, e2⟩ := bRes_good he 32 D
  rw [sRes_good he]
  rw [e1, e2] at hT
  have hX := refText_s 32 D hD hB (by omega)
  refine awp_seq ?_
  refine awp_text (by kernel_rfl) ?_
  (refine r_pure (a_assign (r := .p _)) rfl rfl ?_)
  (refine r_pure (a_assign (r := .p _)) rfl rfl ?_)
  refine arun_nil ?_
  refine awp_seq ?_
  refine awp_text (by kernel_rfl) ?_
  (refine r_pure (a_move (r := .p _)) rfl rfl ?_)
  (refine r_pure (a_move (r := .p _)) rfl rfl ?_)
  (refine r_pure (a_cat (by rw [show (⟨#[107, 101, 121, 32]⟩ : ByteArray).size = 4 from rfl]; omega) hu) rfl rfl ?_)
  (refine r_run (a_s2b 12 Try.underlying9 Try.underlying22 Try.underlying5 (by first | omega | (simp only [maxLen]; omega)) s1 s2) rfl rfl ⟨rfl, trivial⟩ ?_)
  (refine r_callV (fun n => 13 + 1000 * n) (hT) rfl rfl Try.func40 rfl rfl (by first | rfl | simp [AV.noSl, AV.noSlL, AObj.noSl, PV.isV, bs_noSl]) (by first | rfl | simp [AV.noSl, AV.noSlL, AObj.noSl, PV.isV, bs_noSl]) rfl rfl rfl (by first | exact trivial | exact ⟨rfl, trivial⟩ | exact ⟨rfl, rfl, trivial⟩) rfl rfl rfl ?_)
  (refine r_pure (a_move (r := .tup _)) rfl rfl ?_)
  (refine r_pure (a_extract rfl) rfl rfl ?_)
  (refine r_pure (a_extract rfl) rfl rfl ?_)
  (refine r_pure (a_assign (r := .row _)) rfl rfl ?_)
  (refine r_pure (a_assign (r := .p _)) rfl rfl ?_)
  refine arun_nil ?_
  refine awp_seq (awp_seq ?_)
  refine awp_text (by kernel_rfl) ?_
  (refine r_pure (a_move (r := .p _)) rfl rfl ?_)
  (refine r_pure a_neqT rfl rfl ?_)
  refine arun_nil ?_
  refine thn_n ?_
  refine awp_cond _ rfl (fun h => ?_) (fun h => ?_)
  · cases h
  refine awp_skip (awp_seq ?_)
  refine awp_text (by kernel_rfl) ?_
  (refine r_pure (a_move (r := .row _)) rfl rfl ?_)
  (refine r_callV (fun n => 20 + 1000 * n) (hX) rfl rfl Try.func20 rfl rfl (by first | rfl | simp [AV.noSl, AV.noSlL, AObj.noSl, PV.isV, bs_noSl]) (by first | rfl | simp [AV.noSl, AV.noSlL, AObj.noSl, PV.isV, bs_noSl]) rfl rfl rfl (by first | exact trivial | exact ⟨rfl, trivial⟩ | exact ⟨rfl, rfl, trivial⟩) rfl rfl rfl ?_)
  (refine r_pure (a_assign (r := .p _)) rfl rfl ?_)
  (refine r_pure (a_assign (r := .p _)) rfl rfl ?_)
  refine arun_nil ?_
  refine awp_ret ?_
  refine ⟨(by first | exact .inl rfl | exact .inr rfl), _, (fun o => o), (.tmp _ _ _ _ rfl (.tmp _ _ _ _ rfl .nil)), ?_, rfl, ?_, rfl⟩
  · exact rfl
  · exact trivial

end Go.Proofs.Ytmdkfhmmhiofbaa
