/- mac.Derive, its reference, and the law MacMakes, over data. -/
import Derived.Test.YtgbgpidimipfjaaSl3
import Derived.Test.YtgbgpidimipfjaaHt1
import Derived.Test.YtgbgpidimipfjaaAbd
--%T
namespace Go.Proofs.Ytgbgpidimipfjaa
open Go.RowKit Go.Sort
set_option linter.unusedVariables false
set_option linter.unusedSimpArgs false
set_option maxRecDepth 100000

/-- a text and an error number -/
def sRes (e : Int) (t : ByteArray) : AV := .tup [.p (.v (.string (if e = 0 then t else ⟨#[]⟩))), .p (.v (.int .i64 e))]
theorem sRes_bad {e e' : Int} (h : e = e') (he : e' ≠ 0) (t : ByteArray) : sRes e t = .tup [.p (.v (.string ⟨#[]⟩)), .p (.v (.int .i64 e'))] := by subst h; unfold sRes; rw [if_neg he]
theorem sRes_good {e : Int} (h : e = 0) (t : ByteArray) : sRes e t = .tup [.p (.v (.string t)), .p (.v (.int .i64 0))] := by subst h; rfl
def KEY4 : List Int := [107, 101, 121, 32]
theorem KEY4_B : isB KEY4 := by intro x hx; simp [KEY4] at hx; omega
def derE (s l : ByteArray) : Int := macE s (4 + l.size)
def derS (s l : ByteArray) : ByteArray := hexS (macD s (KEY4 ++ sb l))
theorem hexS_size (xs : List Int) : (hexS xs).size = 2 * xs.length := by rw [hexS, nums_size, hexT_len]
theorem derS_size (s l : ByteArray) : (derS s l).size = 64 := by rw [derS, hexS_size, macD_len]

set_option maxHeartbeats 1000000 in
theorem derive_s (s l : ByteArray) (hl : l.size ≤ 140737488351232) : Fn Try.prog 39 [.p (.v (.string s)), .p (.v (.string l))] (sRes (derE s l) (derS s l)) [] := by
  refine fn_intro Try.func39 rfl (Nat.le_of_ble_eq_true rfl) fun w0 A => ?_
  obtain ⟨u, hu⟩ : ∃ u, (⟨#[107, 101, 121, 32]⟩ : ByteArray) ++ l = u := ⟨_, rfl⟩
  have s1 : u.size = 4 + l.size := by rw [← hu, cat_size]; rfl
  have s3 : u.size ≤ maxLen := by rw [s1]; simp only [maxLen]; omega
  have s2 : sb u = KEY4 ++ sb l := by rw [← hu, sb_cat]; rfl
  have hT := tag_s s (4 + l.size) (KEY4 ++ sb l) (by rw [List.length_append, sb_length]; rfl) (isB_app KEY4_B (sb_isB l))
  have hD := macD_len s (KEY4 ++ sb l)
  have hB := macD_B s (KEY4 ++ sb l)
  unfold derE derS
  generalize macD s (KEY4 ++ sb l) = D at hT hD hB ⊢
  generalize KEY4 ++ sb l = Z at hT s2
  by_cases he : macE s (4 + l.size) ≠ 0
  · obtain ⟨e1, e2⟩ := bRes_bad (e' := macE s (4 + l.size)) rfl he 32 D
    rw [sRes_bad rfl he]
    rw [e1, e2] at hT
    generalize macE s (4 + l.size) = e at hT he
    refine awp_seq ?_
    refine awp_text (by kernel_rfl) ?_
    (refine r_pure (a_assign (r := .p _)) rfl rfl ?_)
    (refine r_pure (a_assign (r := .p _)) rfl rfl ?_)
    refine arun_nil ?_
    refine awp_seq ?_
    refine awp_text (by kernel_rfl) ?_
    (refine r_pure (a_move (r := .p _)) rfl rfl ?_)
    (refine r_pure (a_move (r := .p _)) rfl rfl ?_)
    (refine r_pure (a_cat (by rw [show (⟨#[107, 101, 121, 32]⟩ : ByteArray).size = 4 from rfl]; omega) hu) rfl rfl ?_)
    (refine r_run (a_s2b 12 Try.underlying9 Try.underlying22 Try.underlying5 (by omega) s1 s2) rfl rfl ⟨rfl, trivial⟩ ?_)
    (refine r_callV (fun n => 13 + 1000 * n) (hT) rfl rfl Try.func31 rfl rfl (by first | rfl | simp [AV.noSl, AV.noSlL, AObj.noSl, PV.isV, bs_noSl]) (by first | rfl | simp [AV.noSl, AV.noSlL, AObj.noSl, PV.isV, bs_noSl]) rfl rfl rfl (by first | exact trivial | exact ⟨rfl, trivial⟩ | exact ⟨rfl, rfl, trivial⟩) rfl rfl rfl ?_)
    (refine r_pure (a_move (r := .tup _)) rfl rfl ?_)
    (refine r_pure (a_extract rfl) rfl rfl ?_)
    (refine r_pure (a_extract rfl) rfl rfl ?_)
    (first | refine r_pure (a_assign (r := .p _)) rfl rfl ?_ | refine r_pure (a_assign (r := .row _)) rfl rfl ?_)
    (refine r_pure (a_assign (r := .p _)) rfl rfl ?_)
    refine arun_nil ?_
    refine awp_seq (awp_seq ?_)
    refine awp_text (by kernel_rfl) ?_
    (refine r_pure (a_move (r := .p _)) rfl rfl ?_)
    (first | refine r_pure a_neq rfl rfl ?_ | refine r_pure a_neqT rfl rfl ?_)
    refine arun_nil ?_
    refine thn_n ?_
    refine awp_cond _ rfl (fun h => ?_) (fun h => ?_)
    · refine awp_seq ?_
      refine awp_text (by kernel_rfl) ?_
      (refine r_pure (a_move (r := .p _)) rfl rfl ?_)
      (refine r_pure (a_assign (r := .p _)) rfl rfl ?_)
      (refine r_pure (a_assign (r := .p _)) rfl rfl ?_)
      refine arun_nil ?_
      refine awp_ret (thn_r ?_)
      refine ⟨(by first | exact .inl rfl | exact .inr rfl), _, (fun o => o), (.tmp _ _ _ _ rfl (.tmp _ _ _ _ rfl .nil)), ?_, rfl, ?_, rfl⟩
      · exact rfl
      · exact trivial
    · exact absurd (by simpa using h) he
  have he : macE s (4 + l.size) = 0 := by simpa using he
  obtain ⟨e1, e2⟩ := bRes_good he 32 D
  rw [sRes_good he]
  rw [e1, e2] at hT
  have hX := text_s 32 D hD hB (by omega)
  refine awp_seq ?_
  refine awp_text (by kernel_rfl) ?_
  (refine r_pure (a_assign (r := .p _)) rfl rfl ?_)
  (refine r_pure (a_assign (r := .p _)) rfl rfl ?_)
  refine arun_nil ?_
  refine awp_seq ?_
  refine awp_text (by kernel_rfl) ?_
  (refine r_pure (a_move (r := .p _)) rfl rfl ?_)
  (refine r_pure (a_move (r := .p _)) rfl rfl ?_)
  (refine r_pure (a_cat (by rw [show (⟨#[107, 101, 121, 32]⟩ : ByteArray).size = 4 from rfl]; omega) hu) rfl rfl ?_)
  (refine r_run (a_s2b 12 Try.underlying9 Try.underlying22 Try.underlying5 (by omega) s1 s2) rfl rfl ⟨rfl, trivial⟩ ?_)
  (refine r_callV (fun n => 13 + 1000 * n) (hT) rfl rfl Try.func31 rfl rfl (by first | rfl | simp [AV.noSl, AV.noSlL, AObj.noSl, PV.isV, bs_noSl]) (by first | rfl | simp [AV.noSl, AV.noSlL, AObj.noSl, PV.isV, bs_noSl]) rfl rfl rfl (by first | exact trivial | exact ⟨rfl, trivial⟩ | exact ⟨rfl, rfl, trivial⟩) rfl rfl rfl ?_)
  (refine r_pure (a_move (r := .tup _)) rfl rfl ?_)
  (refine r_pure (a_extract rfl) rfl rfl ?_)
  (refine r_pure (a_extract rfl) rfl rfl ?_)
  (first | refine r_pure (a_assign (r := .p _)) rfl rfl ?_ | refine r_pure (a_assign (r := .row _)) rfl rfl ?_)
  (refine r_pure (a_assign (r := .p _)) rfl rfl ?_)
  refine arun_nil ?_
  refine awp_seq (awp_seq ?_)
  refine awp_text (by kernel_rfl) ?_
  (refine r_pure (a_move (r := .p _)) rfl rfl ?_)
  (first | refine r_pure a_neq rfl rfl ?_ | refine r_pure a_neqT rfl rfl ?_)
  refine arun_nil ?_
  refine thn_n ?_
  refine awp_cond _ rfl (fun h => ?_) (fun h => ?_)
  · cases h
  refine awp_skip (awp_seq ?_)
  refine awp_text (by kernel_rfl) ?_
  (refine r_pure (a_move (r := .row _)) rfl rfl ?_)
  (refine r_callV (fun n => 20 + 1000 * n) (hX) rfl rfl Try.func75 rfl rfl (by first | rfl | simp [AV.noSl, AV.noSlL, AObj.noSl, PV.isV, bs_noSl]) (by first | rfl | simp [AV.noSl, AV.noSlL, AObj.noSl, PV.isV, bs_noSl]) rfl rfl rfl (by first | exact trivial | exact ⟨rfl, trivial⟩ | exact ⟨rfl, rfl, trivial⟩) rfl rfl rfl ?_)
  (refine r_pure (a_assign (r := .p _)) rfl rfl ?_)
  (refine r_pure (a_assign (r := .p _)) rfl rfl ?_)
  refine arun_nil ?_
  refine awp_ret ?_
  refine ⟨(by first | exact .inl rfl | exact .inr rfl), _, (fun o => o), (.tmp _ _ _ _ rfl (.tmp _ _ _ _ rfl .nil)), ?_, rfl, ?_, rfl⟩
  · exact rfl
  · exact trivial

set_option maxHeartbeats 1000000 in
theorem refDerive_s (s l : ByteArray) (hl : l.size ≤ 140737488351232) : Fn Try.prog 41 [.p (.v (.string s)), .p (.v (.string l))] (sRes (derE s l) (derS s l)) [] := by
  refine fn_intro Try.func41 rfl (Nat.le_of_ble_eq_true rfl) fun w0 A => ?_
  obtain ⟨u, hu⟩ : ∃ u, (⟨#[107, 101, 121, 32]⟩ : ByteArray) ++ l = u := ⟨_, rfl⟩
  have s1 : u.size = 4 + l.size := by rw [← hu, cat_size]; rfl
  have s3 : u.size ≤ maxLen := by rw [s1]; simp only [maxLen]; omega
  have s2 : sb u = KEY4 ++ sb l := by rw [← hu, sb_cat]; rfl
  have hT := refTag_s s (4 + l.size) (KEY4 ++ sb l) (by rw [List.length_append, sb_length]; rfl) (isB_app KEY4_B (sb_isB l))
  have hD := macD_len s (KEY4 ++ sb l)
  have hB := macD_B s (KEY4 ++ sb l)
  unfold derE derS
  generalize macD s (KEY4 ++ sb l) = D at hT hD hB ⊢
  generalize KEY4 ++ sb l = Z at hT s2
  by_cases he : macE s (4 + l.size) ≠ 0
  · obtain ⟨e1, e2⟩ := bRes_bad (e' := macE s (4 + l.size)) rfl he 32 D
    rw [sRes_bad rfl he]
    rw [e1, e2] at hT
    generalize macE s (4 + l.size) = e at hT he
    refine awp_seq ?_
    refine awp_text (by kernel_rfl) ?_
    (refine r_pure (a_assign (r := .p _)) rfl rfl ?_)
    (refine r_pure (a_assign (r := .p _)) rfl rfl ?_)
    refine arun_nil ?_
    refine awp_seq ?_
    refine awp_text (by kernel_rfl) ?_
    (refine r_pure (a_move (r := .p _)) rfl rfl ?_)
    (refine r_pure (a_move (r := .p _)) rfl rfl ?_)
    (refine r_pure (a_cat (by rw [show (⟨#[107, 101, 121, 32]⟩ : ByteArray).size = 4 from rfl]; omega) hu) rfl rfl ?_)
    (refine r_run (a_s2b 12 Try.underlying9 Try.underlying22 Try.underlying5 (by omega) s1 s2) rfl rfl ⟨rfl, trivial⟩ ?_)
    (refine r_callV (fun n => 13 + 1000 * n) (hT) rfl rfl Try.func32 rfl rfl (by first | rfl | simp [AV.noSl, AV.noSlL, AObj.noSl, PV.isV, bs_noSl]) (by first | rfl | simp [AV.noSl, AV.noSlL, AObj.noSl, PV.isV, bs_noSl]) rfl rfl rfl (by first | exact trivial | exact ⟨rfl, trivial⟩ | exact ⟨rfl, rfl, trivial⟩) rfl rfl rfl ?_)
    (refine r_pure (a_move (r := .tup _)) rfl rfl ?_)
    (refine r_pure (a_extract rfl) rfl rfl ?_)
    (refine r_pure (a_extract rfl) rfl rfl ?_)
    (first | refine r_pure (a_assign (r := .p _)) rfl rfl ?_ | refine r_pure (a_assign (r := .row _)) rfl rfl ?_)
    (refine r_pure (a_assign (r := .p _)) rfl rfl ?_)
    refine arun_nil ?_
    refine awp_seq (awp_seq ?_)
    refine awp_text (by kernel_rfl) ?_
    (refine r_pure (a_move (r := .p _)) rfl rfl ?_)
    (first | refine r_pure a_neq rfl rfl ?_ | refine r_pure a_neqT rfl rfl ?_)
    refine arun_nil ?_
    refine thn_n ?_
    refine awp_cond _ rfl (fun h => ?_) (fun h => ?_)
    · refine awp_seq ?_
      refine awp_text (by kernel_rfl) ?_
      (refine r_pure (a_move (r := .p _)) rfl rfl ?_)
      (refine r_pure (a_assign (r := .p _)) rfl rfl ?_)
      (refine r_pure (a_assign (r := .p _)) rfl rfl ?_)
      refine arun_nil ?_
      refine awp_ret (thn_r ?_)
      refine ⟨(by first | exact .inl rfl | exact .inr rfl), _, (fun o => o), (.tmp _ _ _ _ rfl (.tmp _ _ _ _ rfl .nil)), ?_, rfl, ?_, rfl⟩
      · exact rfl
      · exact trivial
    · exact absurd (by simpa using h) he
  have he : macE s (4 + l.size) = 0 := by simpa using he
  obtain ⟨e1, e2⟩ := bRes_good he 32 D
  rw [sRes_good he]
  rw [e1, e2] at hT
  have hX := refText_s 32 D hD hB (by omega)
  refine awp_seq ?_
  refine awp_text (by kernel_rfl) ?_
  (refine r_pure (a_assign (r := .p _)) rfl rfl ?_)
  (refine r_pure (a_assign (r := .p _)) rfl rfl ?_)
  refine arun_nil ?_
  refine awp_seq ?_
  refine awp_text (by kernel_rfl) ?_
  (refine r_pure (a_move (r := .p _)) rfl rfl ?_)
  (refine r_pure (a_move (r := .p _)) rfl rfl ?_)
  (refine r_pure (a_cat (by rw [show (⟨#[107, 101, 121, 32]⟩ : ByteArray).size = 4 from rfl]; omega) hu) rfl rfl ?_)
  (refine r_run (a_s2b 12 Try.underlying9 Try.underlying22 Try.underlying5 (by omega) s1 s2) rfl rfl ⟨rfl, trivial⟩ ?_)
  (refine r_callV (fun n => 13 + 1000 * n) (hT) rfl rfl Try.func32 rfl rfl (by first | rfl | simp [AV.noSl, AV.noSlL, AObj.noSl, PV.isV, bs_noSl]) (by first | rfl | simp [AV.noSl, AV.noSlL, AObj.noSl, PV.isV, bs_noSl]) rfl rfl rfl (by first | exact trivial | exact ⟨rfl, trivial⟩ | exact ⟨rfl, rfl, trivial⟩) rfl rfl rfl ?_)
  (refine r_pure (a_move (r := .tup _)) rfl rfl ?_)
  (refine r_pure (a_extract rfl) rfl rfl ?_)
  (refine r_pure (a_extract rfl) rfl rfl ?_)
  (first | refine r_pure (a_assign (r := .p _)) rfl rfl ?_ | refine r_pure (a_assign (r := .row _)) rfl rfl ?_)
  (refine r_pure (a_assign (r := .p _)) rfl rfl ?_)
  refine arun_nil ?_
  refine awp_seq (awp_seq ?_)
  refine awp_text (by kernel_rfl) ?_
  (refine r_pure (a_move (r := .p _)) rfl rfl ?_)
  (first | refine r_pure a_neq rfl rfl ?_ | refine r_pure a_neqT rfl rfl ?_)
  refine arun_nil ?_
  refine thn_n ?_
  refine awp_cond _ rfl (fun h => ?_) (fun h => ?_)
  · cases h
  refine awp_skip (awp_seq ?_)
  refine awp_text (by kernel_rfl) ?_
  (refine r_pure (a_move (r := .row _)) rfl rfl ?_)
  (refine r_callV (fun n => 20 + 1000 * n) (hX) rfl rfl Try.func76 rfl rfl (by first | rfl | simp [AV.noSl, AV.noSlL, AObj.noSl, PV.isV, bs_noSl]) (by first | rfl | simp [AV.noSl, AV.noSlL, AObj.noSl, PV.isV, bs_noSl]) rfl rfl rfl (by first | exact trivial | exact ⟨rfl, trivial⟩ | exact ⟨rfl, rfl, trivial⟩) rfl rfl rfl ?_)
  (refine r_pure (a_assign (r := .p _)) rfl rfl ?_)
  (refine r_pure (a_assign (r := .p _)) rfl rfl ?_)
  refine arun_nil ?_
  refine awp_ret ?_
  refine ⟨(by first | exact .inl rfl | exact .inr rfl), _, (fun o => o), (.tmp _ _ _ _ rfl (.tmp _ _ _ _ rfl .nil)), ?_, rfl, ?_, rfl⟩
  · exact rfl
  · exact trivial

set_option maxHeartbeats 1000000 in
theorem law_MacMakes (x0 : List PV) (ty0 : Ty Try.prog 10 9 x0) (x1 : List PV) (ty1 : Ty Try.prog 10 9 x1) (x2 : List PV) (ty2 : Ty Try.prog 10 22 x2) (x3 : List PV) (ty3 : Ty Try.prog 10 22 x3) :
    Fn Try.prog 11 [argAV false x0, argAV false x1, argAV false x2, argAV false x3] (.p (.v (.bool true))) [] := by
  obtain ⟨s, rfl, _⟩ := ty_string Try.underlying9 ty0
  obtain ⟨l, rfl, hl⟩ := ty_string Try.underlying9 ty1
  obtain ⟨b, rfl, hN, hB⟩ := ty_bytes Try.underlying22 Try.underlying5 (by kernel_rfl) ty2
  obtain ⟨t, rfl, hM, hC⟩ := ty_bytes Try.underlying22 Try.underlying5 (by kernel_rfl) ty3
  have p1 := derive_s s l hl
  have q1 := refDerive_s s l hl
  have p2 := right_s s b.length t.length b t rfl hB hC
  have q2 := refTag_s s b.length b rfl hB
  have hD := macD_B s b
  have hDl := macD_len s b
  show Fn Try.prog 11 [.p (.v (.string s)), .p (.v (.string l)), .p (.sl b.length 1 (bs b)), .p (.sl t.length 1 (bs t))] (.p (.v (.bool true))) []
  refine fn_intro Try.func11 rfl (Nat.le_of_ble_eq_true rfl) fun w0 A => ?_
  generalize derE s l = e1 at p1 q1
  generalize derS s l = S at p1 q1
  unfold sRes at p1 q1
  generalize (if e1 = 0 then S else ⟨#[]⟩) = S1 at p1 q1
  have hrb : rightB s b t = decide (macE s b.length = 0 ∧ (macD s b).take 16 = t) := rfl
  generalize macD s b = D at *
  by_cases he : macE s b.length = 0
  · obtain ⟨c1, c2⟩ := bRes_good he 32 D
    rw [c1, c2] at q2
    have hsame := same_s 16 t.length (D.take 16) t
    have hq : rightB s b t = decide (strOfNums (D.take 16) = strOfNums t) := by
      rw [hrb, he]
      simp only [true_and]
      exact decide_eq_decide.2 ⟨fun h => by rw [h], nums_inj (fun x hx => hD x (List.mem_of_mem_take hx)) hC⟩
    rw [hq, he] at p2
    generalize decide (strOfNums (D.take 16) = strOfNums t) = bb at p2 hsame
    have hc := bs_hd D 16
    have hDl2 : (bs D).length = 32 := by rw [bs_length]; exact hDl
    refine awp_seq ?_
    refine awp_text (by kernel_rfl) ?_
    (refine r_pure (a_assign (r := .p _)) rfl rfl ?_)
    refine arun_nil ?_
    refine awp_seq ?_
    refine awp_text (by kernel_rfl) ?_
    (refine r_pure (a_move (r := .p _)) rfl rfl ?_)
    (refine r_pure (a_move (r := .p _)) rfl rfl ?_)
    (refine r_callV (fun n => 20 + 1000 * n) (p1) rfl rfl Try.func39 rfl rfl (by first | rfl | simp [AV.noSl, AV.noSlL, AObj.noSl, PV.isV, bs_noSl]) (by first | rfl | simp [AV.noSl, AV.noSlL, AObj.noSl, PV.isV, bs_noSl]) rfl rfl rfl (by first | exact trivial | exact ⟨rfl, trivial⟩ | exact ⟨rfl, rfl, trivial⟩) rfl rfl rfl ?_)
    (refine r_pure (a_move (r := .tup _)) rfl rfl ?_)
    (refine r_pure (a_extract rfl) rfl rfl ?_)
    (refine r_pure (a_extract rfl) rfl rfl ?_)
    (refine r_pure (a_assign (r := .p _)) rfl rfl ?_)
    (refine r_pure (a_assign (r := .p _)) rfl rfl ?_)
    refine arun_nil ?_
    refine awp_seq ?_
    refine awp_text (by kernel_rfl) ?_
    (refine r_pure (a_move (r := .p _)) rfl rfl ?_)
    (refine r_pure (a_move (r := .p _)) rfl rfl ?_)
    (refine r_pure (a_move (r := .p _)) rfl rfl ?_)
    (refine r_callV (fun n => 27 + 1000 * n) (p2) rfl rfl Try.func40 rfl rfl (by first | rfl | simp [AV.noSl, AV.noSlL, AObj.noSl, PV.isV, bs_noSl]) (by first | rfl | simp [AV.noSl, AV.noSlL, AObj.noSl, PV.isV, bs_noSl]) rfl rfl rfl (by first | exact trivial | exact ⟨rfl, trivial⟩ | exact ⟨rfl, rfl, trivial⟩) rfl rfl rfl ?_)
    (refine r_pure (a_move (r := .tup _)) rfl rfl ?_)
    (refine r_pure (a_extract rfl) rfl rfl ?_)
    (refine r_pure (a_extract rfl) rfl rfl ?_)
    (refine r_pure (a_assign (r := .p _)) rfl rfl ?_)
    (refine r_pure (a_assign (r := .p _)) rfl rfl ?_)
    refine arun_nil ?_
    refine awp_seq ?_
    refine awp_text (by kernel_rfl) ?_
    (refine r_pure (a_move (r := .p _)) rfl rfl ?_)
    (refine r_pure (a_move (r := .p _)) rfl rfl ?_)
    (refine r_callV (fun n => 33 + 1000 * n) (q1) rfl rfl Try.func41 rfl rfl (by first | rfl | simp [AV.noSl, AV.noSlL, AObj.noSl, PV.isV, bs_noSl]) (by first | rfl | simp [AV.noSl, AV.noSlL, AObj.noSl, PV.isV, bs_noSl]) rfl rfl rfl (by first | exact trivial | exact ⟨rfl, trivial⟩ | exact ⟨rfl, rfl, trivial⟩) rfl rfl rfl ?_)
    (refine r_pure (a_move (r := .tup _)) rfl rfl ?_)
    (refine r_pure (a_extract rfl) rfl rfl ?_)
    (refine r_pure (a_extract rfl) rfl rfl ?_)
    (refine r_pure (a_assign (r := .p _)) rfl rfl ?_)
    (refine r_pure (a_assign (r := .p _)) rfl rfl ?_)
    refine arun_nil ?_
    refine awp_seq ?_
    refine awp_text (by kernel_rfl) ?_
    (refine r_pure (a_move (r := .p _)) rfl rfl ?_)
    (refine r_pure (a_move (r := .p _)) rfl rfl ?_)
    (refine r_callV (fun n => 39 + 1000 * n) (q2) rfl rfl Try.func32 rfl rfl (by first | rfl | simp [AV.noSl, AV.noSlL, AObj.noSl, PV.isV, bs_noSl]) (by first | rfl | simp [AV.noSl, AV.noSlL, AObj.noSl, PV.isV, bs_noSl]) rfl rfl rfl (by first | exact trivial | exact ⟨rfl, trivial⟩ | exact ⟨rfl, rfl, trivial⟩) rfl rfl rfl ?_)
    (refine r_pure (a_move (r := .tup _)) rfl rfl ?_)
    (refine r_pure (a_extract rfl) rfl rfl ?_)
    (refine r_pure (a_extract rfl) rfl rfl ?_)
    (first | refine r_pure (a_assign (r := .row _)) rfl rfl ?_ | refine r_pure (a_assign (r := .p _)) rfl rfl ?_)
    (refine r_pure (a_assign (r := .p _)) rfl rfl ?_)
    refine arun_nil ?_
    refine awp_seq ?_
    refine awp_text (by kernel_rfl) ?_
    (refine r_pure (a_move (r := .p _)) rfl rfl ?_)
    (refine r_pure (a_move (r := .p _)) rfl rfl ?_)
    (refine r_pure a_seqlT rfl rfl ?_)
    (refine r_pure (a_move (r := .p _)) rfl rfl ?_)
    (refine r_pure (a_move (r := .p _)) rfl rfl ?_)
    (refine r_pure (a_move (r := .p _)) rfl rfl ?_)
    (refine r_pure a_eqlT rfl rfl ?_)
    (refine r_pure a_pickT rfl rfl ?_)
    (refine r_pure (a_move (r := .p _)) rfl rfl ?_)
    (refine r_pure (a_move (r := .p _)) rfl rfl ?_)
    (refine r_pure (a_move (r := .p _)) rfl rfl ?_)
    (refine r_pure a_eqlT rfl rfl ?_)
    (refine r_pure a_pickT rfl rfl ?_)
    (refine r_pure (a_move (r := .p _)) rfl rfl ?_)
    (refine r_pure (a_move (r := .p _)) rfl rfl ?_)
    (refine r_pure (a_move (r := .p _)) rfl rfl ?_)
    (refine r_pure a_eqlT rfl rfl ?_)
    (refine r_pure (a_move (r := .p _)) rfl rfl ?_)
    (first | refine r_pure (a_move (r := .row _)) rfl rfl ?_ | refine r_skipG rfl ?_)
    (first | refine r_pure (a_move (r := .row _)) rfl rfl ?_ | refine r_skipG rfl ?_)
    (first | refine r_run (a_lenR Try.underlying22) rfl rfl ⟨rfl, trivial⟩ ?_ | refine r_skipG rfl ?_)
    (first | refine r_pure a_min rfl rfl ?_ | refine r_skipG rfl ?_)
    (first | refine r_run (a_sliceR (L := none) (H := (some (_, _))) Try.underlying22 sz5 rfl ⟨by omega, rfl⟩ (by omega) (by omega) rfl rfl) rfl rfl ⟨rfl, trivial⟩ ?_ | refine r_skipG rfl ?_)
    (first | refine r_pure (a_move (r := .p _)) rfl rfl ?_ | refine r_skipG rfl ?_)
    (refine r_callV (fun n => 66 + 1000 * n) (hsame) rfl (vl_psl rfl (by omega) hc.symm rfl) Try.func20 rfl rfl (by first | rfl | simp [AV.noSl, AV.noSlL, AObj.noSl, PV.isV, bs_noSl]) (by first | rfl | simp [AV.noSl, AV.noSlL, AObj.noSl, PV.isV, bs_noSl]) rfl rfl rfl (by first | exact trivial | exact ⟨rfl, trivial⟩ | exact ⟨rfl, rfl, trivial⟩) rfl rfl rfl ?_)
    (first | refine r_pure a_pickT rfl rfl ?_ | refine r_pure a_pickF rfl rfl ?_)
    (refine r_pure (a_beqlT Try.underlying4) rfl rfl ?_)
    (refine r_pure a_pickT rfl rfl ?_)
    (refine r_pure (a_assign (r := .p _)) rfl rfl ?_)
    refine arun_nil ?_
    refine awp_ret ?_
    refine ⟨(by first | exact .inl rfl | exact .inr rfl), _, (fun o => o), (.tmp _ _ _ _ rfl .nil), ?_, rfl, ?_, rfl⟩
    · exact rfl
    · exact trivial
  · obtain ⟨c1, c2⟩ := bRes_bad (e' := macE s b.length) rfl he 32 D
    rw [c1, c2] at q2
    have hq : rightB s b t = false := by rw [hrb, decide_eq_false (fun h => he h.1)]
    rw [hq] at p2
    generalize macE s b.length = e at p2 q2 he
    have hb : (e == 0) = false := by simpa using he
    refine awp_seq ?_
    refine awp_text (by kernel_rfl) ?_
    (refine r_pure (a_assign (r := .p _)) rfl rfl ?_)
    refine arun_nil ?_
    refine awp_seq ?_
    refine awp_text (by kernel_rfl) ?_
    (refine r_pure (a_move (r := .p _)) rfl rfl ?_)
    (refine r_pure (a_move (r := .p _)) rfl rfl ?_)
    (refine r_callV (fun n => 20 + 1000 * n) (p1) rfl rfl Try.func39 rfl rfl (by first | rfl | simp [AV.noSl, AV.noSlL, AObj.noSl, PV.isV, bs_noSl]) (by first | rfl | simp [AV.noSl, AV.noSlL, AObj.noSl, PV.isV, bs_noSl]) rfl rfl rfl (by first | exact trivial | exact ⟨rfl, trivial⟩ | exact ⟨rfl, rfl, trivial⟩) rfl rfl rfl ?_)
    (refine r_pure (a_move (r := .tup _)) rfl rfl ?_)
    (refine r_pure (a_extract rfl) rfl rfl ?_)
    (refine r_pure (a_extract rfl) rfl rfl ?_)
    (refine r_pure (a_assign (r := .p _)) rfl rfl ?_)
    (refine r_pure (a_assign (r := .p _)) rfl rfl ?_)
    refine arun_nil ?_
    refine awp_seq ?_
    refine awp_text (by kernel_rfl) ?_
    (refine r_pure (a_move (r := .p _)) rfl rfl ?_)
    (refine r_pure (a_move (r := .p _)) rfl rfl ?_)
    (refine r_pure (a_move (r := .p _)) rfl rfl ?_)
    (refine r_callV (fun n => 27 + 1000 * n) (p2) rfl rfl Try.func40 rfl rfl (by first | rfl | simp [AV.noSl, AV.noSlL, AObj.noSl, PV.isV, bs_noSl]) (by first | rfl | simp [AV.noSl, AV.noSlL, AObj.noSl, PV.isV, bs_noSl]) rfl rfl rfl (by first | exact trivial | exact ⟨rfl, trivial⟩ | exact ⟨rfl, rfl, trivial⟩) rfl rfl rfl ?_)
    (refine r_pure (a_move (r := .tup _)) rfl rfl ?_)
    (refine r_pure (a_extract rfl) rfl rfl ?_)
    (refine r_pure (a_extract rfl) rfl rfl ?_)
    (refine r_pure (a_assign (r := .p _)) rfl rfl ?_)
    (refine r_pure (a_assign (r := .p _)) rfl rfl ?_)
    refine arun_nil ?_
    refine awp_seq ?_
    refine awp_text (by kernel_rfl) ?_
    (refine r_pure (a_move (r := .p _)) rfl rfl ?_)
    (refine r_pure (a_move (r := .p _)) rfl rfl ?_)
    (refine r_callV (fun n => 33 + 1000 * n) (q1) rfl rfl Try.func41 rfl rfl (by first | rfl | simp [AV.noSl, AV.noSlL, AObj.noSl, PV.isV, bs_noSl]) (by first | rfl | simp [AV.noSl, AV.noSlL, AObj.noSl, PV.isV, bs_noSl]) rfl rfl rfl (by first | exact trivial | exact ⟨rfl, trivial⟩ | exact ⟨rfl, rfl, trivial⟩) rfl rfl rfl ?_)
    (refine r_pure (a_move (r := .tup _)) rfl rfl ?_)
    (refine r_pure (a_extract rfl) rfl rfl ?_)
    (refine r_pure (a_extract rfl) rfl rfl ?_)
    (refine r_pure (a_assign (r := .p _)) rfl rfl ?_)
    (refine r_pure (a_assign (r := .p _)) rfl rfl ?_)
    refine arun_nil ?_
    refine awp_seq ?_
    refine awp_text (by kernel_rfl) ?_
    (refine r_pure (a_move (r := .p _)) rfl rfl ?_)
    (refine r_pure (a_move (r := .p _)) rfl rfl ?_)
    (refine r_callV (fun n => 39 + 1000 * n) (q2) rfl rfl Try.func32 rfl rfl (by first | rfl | simp [AV.noSl, AV.noSlL, AObj.noSl, PV.isV, bs_noSl]) (by first | rfl | simp [AV.noSl, AV.noSlL, AObj.noSl, PV.isV, bs_noSl]) rfl rfl rfl (by first | exact trivial | exact ⟨rfl, trivial⟩ | exact ⟨rfl, rfl, trivial⟩) rfl rfl rfl ?_)
    (refine r_pure (a_move (r := .tup _)) rfl rfl ?_)
    (refine r_pure (a_extract rfl) rfl rfl ?_)
    (refine r_pure (a_extract rfl) rfl rfl ?_)
    (first | refine r_pure (a_assign (r := .row _)) rfl rfl ?_ | refine r_pure (a_assign (r := .p _)) rfl rfl ?_)
    (refine r_pure (a_assign (r := .p _)) rfl rfl ?_)
    refine arun_nil ?_
    refine awp_seq ?_
    refine awp_text (by kernel_rfl) ?_
    (refine r_pure (a_move (r := .p _)) rfl rfl ?_)
    (refine r_pure (a_move (r := .p _)) rfl rfl ?_)
    (refine r_pure a_seqlT rfl rfl ?_)
    (refine r_pure (a_move (r := .p _)) rfl rfl ?_)
    (refine r_pure (a_move (r := .p _)) rfl rfl ?_)
    (refine r_pure (a_move (r := .p _)) rfl rfl ?_)
    (refine r_pure a_eqlT rfl rfl ?_)
    (refine r_pure a_pickT rfl rfl ?_)
    (refine r_pure (a_move (r := .p _)) rfl rfl ?_)
    (refine r_pure (a_move (r := .p _)) rfl rfl ?_)
    (refine r_pure (a_move (r := .p _)) rfl rfl ?_)
    (refine r_pure a_eqlT rfl rfl ?_)
    (refine r_pure a_pickT rfl rfl ?_)
    (refine r_pure (a_move (r := .p _)) rfl rfl ?_)
    (refine r_pure (a_move (r := .p _)) rfl rfl ?_)
    (refine r_pure (a_move (r := .p _)) rfl rfl ?_)
    (refine r_pure a_eql rfl rfl ?_)
    (rw [hb])
    (refine r_pure (a_move (r := .p _)) rfl rfl ?_)
    (first | refine r_pure (a_move (r := .row _)) rfl rfl ?_ | refine r_skipG rfl ?_)
    (first | refine r_pure (a_move (r := .row _)) rfl rfl ?_ | refine r_skipG rfl ?_)
    (first | refine r_run (a_lenR Try.underlying22) rfl rfl ⟨rfl, trivial⟩ ?_ | refine r_skipG rfl ?_)
    (first | refine r_pure a_min rfl rfl ?_ | refine r_skipG rfl ?_)
    (first | refine r_run (a_sliceR (L := none) (H := (some (_, _))) Try.underlying22 sz5 rfl ⟨by omega, rfl⟩ (by omega) (by omega) rfl rfl) rfl rfl ⟨rfl, trivial⟩ ?_ | refine r_skipG rfl ?_)
    (first | refine r_pure (a_move (r := .p _)) rfl rfl ?_ | refine r_skipG rfl ?_)
    refine r_skipG rfl ?_
    (first | refine r_pure a_pickT rfl rfl ?_ | refine r_pure a_pickF rfl rfl ?_)
    (refine r_pure (a_beqlT Try.underlying4) rfl rfl ?_)
    (refine r_pure a_pickT rfl rfl ?_)
    (refine r_pure (a_assign (r := .p _)) rfl rfl ?_)
    refine arun_nil ?_
    refine awp_ret ?_
    refine ⟨(by first | exact .inl rfl | exact .inr rfl), _, (fun o => o), (.tmp _ _ _ _ rfl .nil), ?_, rfl, ?_, rfl⟩
    · exact rfl
    · exact trivial
end Go.Proofs.Ytgbgpidimipfjaa
