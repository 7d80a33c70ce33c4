/- shake.Finish, its reference, over data. -/
import Derived.Test.YtckkmfoccefcfaaSk2
--%T
namespace Go.Proofs.Ytckkmfoccefcfaa
open Go.RowKit Go.Sort
set_option linter.unusedVariables false
set_option linter.unusedSimpArgs false
set_option maxRecDepth 100000

def ANSWER : ByteArray := ⟨#[97, 110, 115, 119, 101, 114]⟩
def ansIn (u : ByteArray) (to fr : Int) (n : List Int) : List Int := sb (ANSWER ++ u) ++ (beI to ++ beI fr ++ n)
def ansT (k u : ByteArray) (to fr : Int) (n : List Int) : List Int := (macD k (ansIn u to fr n)).take 16
theorem ansT_len (k u : ByteArray) (to fr : Int) (n : List Int) : (ansT k u to fr n).length = 16 := by rw [ansT, List.length_take, macD_len]; rfl
theorem ansT_B (k u : ByteArray) (to fr : Int) (n : List Int) : isB (ansT k u to fr n) := fun x hx => macD_B _ _ x (List.mem_of_mem_take hx)
theorem answerTag_s (k u : ByteArray) (to fr : Int) (xs : List Int) (hk : keyE k = 0) (hu : u.size = 16) (hx : xs.length = 8) (hB : isB xs)
    (t0 : -9223372036854775808 ≤ to) (t1 : to ≤ 9223372036854775807) (f0 : -9223372036854775808 ≤ fr) (f1 : fr ≤ 9223372036854775807) :
    Fn Try.prog 95 [.p (.v (.string k)), .p (.v (.string u)), .p (.v (.int .i64 to)), .p (.v (.int .i64 fr)), .p (.sl 8 1 (bs xs))] (.p (.sl 16 1 (bs (ansT k u to fr xs)))) [] := by
  have hN1 := bigZ_s to t0 t1
  have hN2 := bigZ_s fr f0 f1
  obtain ⟨u0, hu0⟩ : ∃ w, ANSWER ++ u = w := ⟨_, rfl⟩
  obtain ⟨u1, hu1⟩ : ∃ w, u0 ++ strOfNums (beI to) = w := ⟨_, rfl⟩
  obtain ⟨u2, hu2⟩ : ∃ w, u1 ++ strOfNums (beI fr) = w := ⟨_, rfl⟩
  obtain ⟨u3, hu3⟩ : ∃ w, u2 ++ strOfNums xs = w := ⟨_, rfl⟩
  have zA : (strOfNums (beI to)).size = 4 := by rw [nums_size]; rfl
  have zF : (strOfNums (beI fr)).size = 4 := by rw [nums_size]; rfl
  have zX : (strOfNums xs).size = 8 := by rw [nums_size, hx]
  have z0 : u0.size = 22 := by rw [← hu0, cat_size, hu]; rfl
  have z1 : u1.size = 26 := by rw [← hu1, cat_size, z0, zA]
  have z2 : u2.size = 30 := by rw [← hu2, cat_size, z1, zF]
  have z3 : u3.size = 38 := by rw [← hu3, cat_size, z2, zX]
  have zs3 : sb u3 = ansIn u to fr xs := by
    rw [← hu3, sb_cat, sb_nums hB, ← hu2, sb_cat, sb_nums (beI_B fr), ← hu1, sb_cat, sb_nums (beI_B to), ansIn, hu0]
    simp
  have hB2 : isB (ansIn u to fr xs) := isB_app (sb_isB _) (isB_app (isB_app (beI_B to) (beI_B fr)) hB)
  have hlen : (ansIn u to fr xs).length = 38 := by rw [← zs3, sb_length, z3]
  have hT := refTag_s k 38 (ansIn u to fr xs) hlen hB2
  obtain ⟨e1, e2⟩ := bRes_good (show macE k 38 = 0 by unfold macE; rw [if_pos hk, if_neg (by decide)]) 32 (macD k (ansIn u to fr xs))
  rw [e1, e2] at hT
  clear e1 e2
  have hbl : (bs (macD k (ansIn u to fr xs))).length = 32 := by rw [bs_length]; exact macD_len _ _
  have ht16 : bs (ansT k u to fr xs) = ((bs (macD k (ansIn u to fr xs))).drop 0).take (16 * 1) := by simp [ansT, bs, List.map_take]
  rw [ht16]
  clear ht16 hB2 hlen
  generalize ansIn u to fr xs = Z at *
  generalize macD k Z = D at *
  generalize beI to = BA at *
  generalize beI fr = BF at *
  refine fn_intro Try.func95 rfl (Nat.le_of_ble_eq_true rfl) fun w0 A => ?_
  refine awp_seq ?_
  refine awp_text (by kernel_rfl) ?_
  (refine r_pure (a_assign (r := .p _)) rfl rfl ?_)
  refine arun_nil ?_
  refine awp_seq ?_
  refine awp_draw 4 (by kernel_rfl) ?_
  (refine r_pure (a_move (r := .p _)) rfl rfl ?_)
  (refine r_pure (a_move (r := .p _)) rfl rfl ?_)
  (refine r_pure (a_cat (by rw [hu]; decide) (show (⟨#[97, 110, 115, 119, 101, 114]⟩ : ByteArray) ++ u = u0 from hu0)) rfl rfl ?_)
  (refine r_pure (a_move (r := .p _)) rfl rfl ?_)
  (refine r_callV (fun n => 18 + 1000 * n) (hN1) rfl rfl Try.func91 rfl rfl (by first | rfl | simp [AV.noSl, AV.noSlL, AObj.noSl, PV.isV, bs_noSl]) (by first | rfl | simp [AV.noSl, AV.noSlL, AObj.noSl, PV.isV, bs_noSl]) rfl rfl rfl (by first | exact trivial | exact ⟨rfl, trivial⟩ | exact ⟨rfl, rfl, trivial⟩) rfl rfl rfl ?_)
  (refine r_run (a_b2s Try.underlying50 Try.underlying5 Try.underlying9 (src_row) rfl rfl) rfl rfl ⟨rfl, trivial⟩ ?_)
  (refine r_pure (a_cat (by rw [z0, zA]; decide) hu1) rfl rfl ?_)
  (refine r_pure (a_move (r := .p _)) rfl rfl ?_)
  (refine r_callV (fun n => 22 + 1000 * n) (hN2) rfl rfl Try.func91 rfl rfl (by first | rfl | simp [AV.noSl, AV.noSlL, AObj.noSl, PV.isV, bs_noSl]) (by first | rfl | simp [AV.noSl, AV.noSlL, AObj.noSl, PV.isV, bs_noSl]) rfl rfl rfl (by first | exact trivial | exact ⟨rfl, trivial⟩ | exact ⟨rfl, rfl, trivial⟩) rfl rfl rfl ?_)
  (refine r_run (a_b2s Try.underlying50 Try.underlying5 Try.underlying9 (src_row) rfl rfl) rfl rfl ⟨rfl, trivial⟩ ?_)
  (refine r_pure (a_cat (by rw [z1, zF]; decide) hu2) rfl rfl ?_)
  (refine r_pure (a_move (r := .p _)) rfl rfl ?_)
  (refine r_run (a_b2s Try.underlying50 Try.underlying5 Try.underlying9 (src_sl) rfl rfl) rfl rfl trivial ?_)
  (refine r_pure (a_cat (by rw [z2, zX]; decide) hu3) rfl rfl ?_)
  (refine r_run (a_s2b 28 Try.underlying9 Try.underlying50 Try.underlying5 (by first | omega | (simp only [maxLen]; omega)) z3 zs3) rfl rfl ⟨rfl, trivial⟩ ?_)
  (refine r_callV (fun n => 29 + 1000 * n) (hT) rfl rfl Try.func90 rfl rfl (by first | rfl | simp [AV.noSl, AV.noSlL, AObj.noSl, PV.isV, bs_noSl]) (by first | rfl | simp [AV.noSl, AV.noSlL, AObj.noSl, PV.isV, bs_noSl]) rfl rfl rfl (by first | exact trivial | exact ⟨rfl, trivial⟩ | exact ⟨rfl, rfl, trivial⟩) rfl rfl rfl ?_)
  (refine r_pure (a_move (r := .tup _)) rfl rfl ?_)
  (refine r_pure (a_extract rfl) rfl rfl ?_)
  (refine r_pure (a_extract rfl) rfl rfl ?_)
  (refine r_pure (a_assign (r := .row _)) rfl rfl ?_)
  (refine r_pure (a_assign (r := .p _)) rfl rfl ?_)
  refine arun_nil ⟨by kernel_rfl, ?_⟩
  refine awp_reO (reo_fzR (cs := bs D) 29 rfl) ?_
  refine awp_seq ?_
  refine awp_text (by kernel_rfl) ?_
  (refine r_pure (a_move (r := .p _)) rfl rfl ?_)
  (refine r_pure (a_sliceS (L := none) (H := (some (_, _))) Try.underlying50 sz5 rfl ⟨by omega, rfl⟩ (by omega) (by omega) rfl rfl) rfl rfl ?_)
  (refine r_pure (a_assign (r := .p _)) rfl rfl ?_)
  refine arun_nil ?_
  refine awp_ret ?_
  refine ⟨(by first | exact .inl rfl | exact .inr rfl), _, (fun o => o), (.tmp _ _ _ _ rfl .nil), ?_, rfl, ?_, rfl⟩
  · exact rfl
  · exact trivial

/-- a handshake under way -/
structure HS where
  lv : Bool
  mine : Int
  nc : ByteArray
  b : Int
  s : Int
def HS.cells (x : HS) : List AV := [.p (.v (.bool x.lv)), .p (.v (.int .i64 x.mine)), .p (.v (.string x.nc)), .p (.v (.int .i64 x.b)), .p (.v (.int .i64 x.s))]
def HS.pv (x : HS) : List PV := [.v (.bool x.lv), .v (.int .i64 x.mine), .v (.string x.nc), .v (.int .i64 x.b), .v (.int .i64 x.s)]
noncomputable def finP (a b sh : ByteArray) (x : HS) (m : MS) (now : Int) : KY × Int :=
  if wE m ≠ 0 then (KY0, wE m) else if m.t ≠ 2 then (KY0, 2) else if x.lv = false ∨ m.r ≠ x.mine then (KY0, 13)
  else if secE a b sh ≠ 0 then (KY0, secE a b sh) else if x.nc.size ≠ 16 then (KY0, 1)
  else if ansT (secS a b sh) x.nc m.r m.s (m.xs.take 8) ≠ m.xs.drop 8 then (KY0, 9)
  else (if mkE (secS a b sh) x.nc (hexS (m.xs.take 8)) true x.mine m.s now = 0 then mkKY (secS a b sh) x.nc (hexS (m.xs.take 8)) true x.mine m.s now else KY0, mkE (secS a b sh) x.nc (hexS (m.xs.take 8)) true x.mine m.s now)
theorem mkR_eq (s u a : ByteArray) (f : Bool) (m t n : Int) : mkR s u a f m t n = .tup [.agg (if mkE s u a f m t n = 0 then mkKY s u a f m t n else KY0).cells, .p (.v (.int .i64 (mkE s u a f m t n)))] := by
  unfold mkR
  split <;> rfl
theorem wE_n2 {m : MS} (h : wE m = 0) (ht : m.t = 2) : m.n = 24 := by
  unfold wE at h
  rw [ht] at h
  by_cases h1 : (ofS 2).ok = false
  · rw [if_pos h1] at h; omega
  rw [if_neg h1] at h
  by_cases h2 : formB (ofS 2) m = true
  · rw [if_pos h2] at h; omega
  rw [if_neg h2] at h
  by_cases h3 : rngB m = true
  · rw [if_pos h3] at h; omega
  rw [if_neg h3] at h
  by_cases h4 : sizB (ofS 2) m = true
  · rw [if_pos h4] at h; omega
  have e1 : (ofS 2).lo = 24 := rfl
  have e2 : (ofS 2).hi = 24 := rfl
  unfold sizB at h4
  rw [e1, e2] at h4
  simp at h4
  omega

set_option maxHeartbeats 4000000 in
theorem finish_s (a b sh : ByteArray) (x : HS) (m : MS) (now : Int) (hsh : sh.size ≤ 140737488351232) (hx : m.xs.length = m.n) (hB : isB m.xs) (hm : m.n ≤ 140737488351232)
    (x0 : -9223372036854775808 ≤ x.mine) (x1 : x.mine ≤ 9223372036854775807) (n0 : -9223372036854775808 ≤ now) (n1 : now ≤ 9223372036854775807) :
    Fn Try.prog 39 [.p (.v (.string a)), .p (.v (.string b)), .p (.v (.string sh)), .agg x.cells, .agg m.cells, .p (.v (.int .i64 now))] (.tup [.agg (finP a b sh x m now).1.cells, .p (.v (.int .i64 (finP a b sh x m now).2))]) [] := by
  obtain ⟨lv, mine, nc, hb, hs⟩ := x
  obtain ⟨t, s, r, c, n, xs⟩ := m
  have hC := wcheck_s ⟨t, s, r, c, n, xs⟩ (by show n ≤ _; have : n ≤ 140737488351232 := hm; omega)
  have hS := secret_s a b sh hsh
  obtain ⟨⟨K1, E1⟩, hP⟩ : ∃ P, finP a b sh ⟨lv, mine, nc, hb, hs⟩ ⟨t, s, r, c, n, xs⟩ now = P := ⟨_, rfl⟩
  rw [hP]
  have hn2 := wE_n2 (m := ⟨t, s, r, c, n, xs⟩)
  have hgd := wE_good (m := ⟨t, s, r, c, n, xs⟩)
  unfold finP at hP
  dsimp only at hP hx hB hm x0 x1 hn2 hgd
  have hcs : (MS.mk t s r c n xs).cells = [.p (.v (.int .i64 t)), .p (.v (.int .i64 s)), .p (.v (.int .i64 r)), .p (.v (.int .i64 c)), .p (.sl n 1 (bs xs))] := rfl
  have hxs : (HS.mk lv mine nc hb hs).cells = [.p (.v (.bool lv)), .p (.v (.int .i64 mine)), .p (.v (.string nc)), .p (.v (.int .i64 hb)), .p (.v (.int .i64 hs))] := rfl
  rw [hcs] at hC ⊢
  rw [hxs]
  clear hcs hxs
  change Fn _ _ _ (.tup [.agg K1.cells, .p (.v (.int .i64 E1))]) _
  generalize wE (MS.mk t s r c n xs) = wm at *
  unfold sRes at hS
  generalize hKK : (if secE a b sh = 0 then secS a b sh else ⟨#[]⟩) = K at hS
  have hKey := keyE_secS a b sh
  generalize secS a b sh = K0 at *
  generalize secE a b sh = se at *
  refine fn_intro Try.func39 rfl (Nat.le_of_ble_eq_true rfl) fun w0 A => ?_
  refine awp_seq ?_
  refine awp_text (by kernel_rfl) ?_
  (refine r_run (a_box (X := .agg _) 9 rfl) rfl rfl ⟨rfl, trivial⟩ ?_)
  (refine r_run (a_box (X := .agg _) 10 rfl) rfl rfl ⟨rfl, trivial⟩ ?_)
  (refine r_run (a_alloc 12 zr46 rfl) rfl rfl ⟨rfl, trivial⟩ ?_)
  (refine r_pure (a_assign (r := .p _)) rfl rfl ?_)
  refine arun_nil ?_
  refine awp_seq (awp_seq ?_)
  refine awp_text (by kernel_rfl) ?_
  (refine r_run (a_loadN Try.underlying58 rfl sz58 (by first | exact Nat.le_of_ble_eq_true rfl | omega | (simp only [AV.cells, List.length_map]; omega)) (by first | exact take_all (by first | assumption | exact Nat.eq_of_beq_eq_true rfl | (simp only [AV.cells, List.length_map]; first | assumption | omega)) | (simp only [List.take_succ_cons, List.take_zero, List.drop_succ_cons, List.drop_zero]; rfl) | rfl)) rfl rfl ⟨rfl, trivial⟩ ?_)
  (refine r_callV (fun n => 20 + 1000 * n) (hC) rfl rfl Try.func86 rfl rfl (by first | rfl | simp [AV.noSl, AV.noSlL, AObj.noSl, PV.isV, bs_noSl]) (by first | rfl | simp [AV.noSl, AV.noSlL, AObj.noSl, PV.isV, bs_noSl]) rfl rfl rfl (by first | exact trivial | exact ⟨rfl, trivial⟩ | exact ⟨rfl, rfl, trivial⟩) rfl rfl rfl ?_)
  (refine r_pure (a_assign (r := .p _)) rfl rfl ?_)
  refine arun_nil ?_
  refine awp_seq ?_
  refine awp_text (by kernel_rfl) ?_
  (refine r_pure (a_move (r := .p _)) rfl rfl ?_)
  (refine r_pure a_neq rfl rfl ?_)
  refine arun_nil ?_
  refine thn_n ?_
  refine awp_cond _ rfl (fun h => ?_) (fun h => ?_)
  · have h1 : wm ≠ 0 := by simpa using h
    rw [if_pos h1] at hP
    cases hP
    refine awp_seq ?_
    refine awp_text (by kernel_rfl) ?_
    (refine r_pure (b_build pl46 zr46 rfl rfl) rfl rfl ?_)
    (refine r_pure (a_move (r := .p _)) rfl rfl ?_)
    (refine r_run (a_storeAll (Y := .agg _) sz46 rfl (by first | exact Nat.eq_of_beq_eq_true rfl | (simp only [AV.cells, List.length_map]; first | assumption | omega)) (Nat.eq_of_beq_eq_true rfl)) rfl rfl ⟨rfl, trivial⟩ ?_)
    (refine r_pure (a_assign (r := .p _)) rfl rfl ?_)
    refine arun_nil ?_
    refine awp_ret (thn_r ?_)
    refine ⟨(by first | exact .inl rfl | exact .inr rfl), _, (fun o => o), (.cellN _ _ _ _ _ _ _ _ _ rfl rfl Try.underlying46 rfl sz46 (by first | assumption | kernel_rfl) (.tmp _ _ _ _ rfl .nil)), ?_, rfl, ?_, rfl⟩
    · exact rfl
    · exact trivial
  have h1 : wm = 0 := by simpa using h
  clear h
  rw [if_neg (by simp [h1])] at hP
  refine awp_skip (awp_seq (awp_seq ?_))
  refine awp_text (by kernel_rfl) ?_
  (refine r_pure (b_fieldAddr fi58_0 rfl) rfl rfl ?_)
  (refine r_run (a_load1 Try.underlying3 rfl (by first | rfl | assumption)) rfl rfl ⟨rfl, trivial⟩ ?_)
  (refine r_pure a_neq rfl rfl ?_)
  refine arun_nil ?_
  refine thn_n ?_
  refine awp_cond _ rfl (fun h => ?_) (fun h => ?_)
  · have h2 : t ≠ 2 := by simpa using h
    rw [if_pos h2] at hP
    cases hP
    refine awp_seq ?_
    refine awp_text (by kernel_rfl) ?_
    (refine r_pure (b_build pl46 zr46 rfl rfl) rfl rfl ?_)
    (refine r_run (a_storeAll (Y := .agg _) sz46 rfl (by first | exact Nat.eq_of_beq_eq_true rfl | (simp only [AV.cells, List.length_map]; first | assumption | omega)) (Nat.eq_of_beq_eq_true rfl)) rfl rfl ⟨rfl, trivial⟩ ?_)
    (refine r_pure (a_assign (r := .p _)) rfl rfl ?_)
    refine arun_nil ?_
    refine awp_ret (thn_r ?_)
    refine ⟨(by first | exact .inl rfl | exact .inr rfl), _, (fun o => o), (.cellN _ _ _ _ _ _ _ _ _ rfl rfl Try.underlying46 rfl sz46 (by first | assumption | kernel_rfl) (.tmp _ _ _ _ rfl .nil)), ?_, rfl, ?_, rfl⟩
    · exact rfl
    · exact trivial
  have h2 : t = 2 := by simpa using h
  clear h
  rw [if_neg (by simp [h2])] at hP
  obtain rfl := hn2 h1 h2
  obtain ⟨_, _, s0, s1, r0, r1, _, _⟩ := hgd h1
  clear hn2 hgd
  refine awp_skip (awp_seq (awp_seq ?_))
  refine awp_text (by kernel_rfl) ?_
  (refine r_pure (b_fieldAddr fi64_0 rfl) rfl rfl ?_)
  (refine r_run (a_load1 Try.underlying4 rfl (by first | rfl | assumption)) rfl rfl ⟨rfl, trivial⟩ ?_)
  (refine r_pure a_not rfl rfl ?_)
  (refine r_pure (a_move (r := .p _)) rfl rfl ?_)
  (refine r_mb2 _ rfl rfl (by (repeat (first | exact stripOK_nil | refine stripOK_mb id ?_ | refine stripOK_p ?_ | refine stripOK_ref ?_ | refine stripOK_row ?_ | refine stripOK_ptr ?_ | refine stripOK_agg ?_ | refine stripOK_mb (by simp_all) ?_ | refine StripOK.plain _ _ rfl ?_))) (fun hb => (b_fieldAddr fi58_2 rfl)) (fun _ => trivial) ?_)
  (refine r_mb2 _ rfl rfl (by (repeat (first | exact stripOK_nil | refine stripOK_mb id ?_ | refine stripOK_p ?_ | refine stripOK_ref ?_ | refine stripOK_row ?_ | refine stripOK_ptr ?_ | refine stripOK_agg ?_ | refine stripOK_mb (by simp_all) ?_ | refine StripOK.plain _ _ rfl ?_))) (fun hb => (a_load1 Try.underlying3 rfl (by first | rfl | assumption))) (fun _ => ⟨rfl, trivial⟩) ?_)
  (refine r_mb2 _ rfl rfl (by (repeat (first | exact stripOK_nil | refine stripOK_mb id ?_ | refine stripOK_p ?_ | refine stripOK_ref ?_ | refine stripOK_row ?_ | refine stripOK_ptr ?_ | refine stripOK_agg ?_ | refine stripOK_mb (by simp_all) ?_ | refine StripOK.plain _ _ rfl ?_))) (fun hb => (b_fieldAddr fi64_1 rfl)) (fun _ => trivial) ?_)
  (refine r_mb2 _ rfl rfl (by (repeat (first | exact stripOK_nil | refine stripOK_mb id ?_ | refine stripOK_p ?_ | refine stripOK_ref ?_ | refine stripOK_row ?_ | refine stripOK_ptr ?_ | refine stripOK_agg ?_ | refine stripOK_mb (by simp_all) ?_ | refine StripOK.plain _ _ rfl ?_))) (fun hb => (a_load1 Try.underlying3 rfl (by first | rfl | assumption))) (fun _ => ⟨rfl, trivial⟩) ?_)
  (refine r_mb2 _ rfl rfl (by (repeat (first | exact stripOK_nil | refine stripOK_mb id ?_ | refine stripOK_p ?_ | refine stripOK_ref ?_ | refine stripOK_row ?_ | refine stripOK_ptr ?_ | refine stripOK_agg ?_ | refine stripOK_mb (by simp_all) ?_ | refine StripOK.plain _ _ rfl ?_))) (fun hb => a_neq) (fun _ => trivial) ?_)
  (refine r_pure (a_or (by first | exact id | (simp; done) | grind)) rfl rfl ?_)
  refine arun_nil ?_
  refine thn_n ?_
  refine awp_cond _ rfl (fun h => ?_) (fun h => ?_)
  · have h3 : lv = false ∨ r ≠ mine := by revert h; cases lv <;> simp
    rw [if_pos h3] at hP
    cases hP
    refine awp_seq ?_
    refine awp_text (by kernel_rfl) ?_
    (refine r_pure (b_build pl46 zr46 rfl rfl) rfl rfl ?_)
    (refine r_run (a_storeAll (Y := .agg _) sz46 rfl (by first | exact Nat.eq_of_beq_eq_true rfl | (simp only [AV.cells, List.length_map]; first | assumption | omega)) (Nat.eq_of_beq_eq_true rfl)) rfl rfl ⟨rfl, trivial⟩ ?_)
    (refine r_pure (a_assign (r := .p _)) rfl rfl ?_)
    refine arun_nil ?_
    refine awp_ret (thn_r ?_)
    refine ⟨(by first | exact .inl rfl | exact .inr rfl), _, (fun o => o), (.cellN _ _ _ _ _ _ _ _ _ rfl rfl Try.underlying46 rfl sz46 (by first | assumption | kernel_rfl) (.tmp _ _ _ _ rfl .nil)), ?_, rfl, ?_, rfl⟩
    · exact rfl
    · exact trivial
  have h3 : ¬ (lv = false ∨ r ≠ mine) := by revert h; cases lv <;> simp
  clear h
  rw [if_neg h3] at hP
  refine awp_skip (awp_seq ?_)
  refine awp_text (by kernel_rfl) ?_
  (refine r_pure (a_move (r := .p _)) rfl rfl ?_)
  (refine r_pure (a_move (r := .p _)) rfl rfl ?_)
  (refine r_pure (a_move (r := .p _)) rfl rfl ?_)
  (refine r_callV (fun n => 44 + 1000 * n) (hS) rfl rfl Try.func80 rfl rfl (by first | rfl | simp [AV.noSl, AV.noSlL, AObj.noSl, PV.isV, bs_noSl]) (by first | rfl | simp [AV.noSl, AV.noSlL, AObj.noSl, PV.isV, bs_noSl]) rfl rfl rfl (by first | exact trivial | exact ⟨rfl, trivial⟩ | exact ⟨rfl, rfl, trivial⟩) rfl rfl rfl ?_)
  (refine r_pure (a_move (r := .tup _)) rfl rfl ?_)
  (refine r_pure (a_extract rfl) rfl rfl ?_)
  (refine r_pure (a_extract rfl) rfl rfl ?_)
  (refine r_pure (a_assign (r := .p _)) rfl rfl ?_)
  (refine r_pure (a_assign (r := .p _)) rfl rfl ?_)
  refine arun_nil ?_
  refine awp_seq (awp_seq ?_)
  refine awp_text (by kernel_rfl) ?_
  (refine r_pure (a_move (r := .p _)) rfl rfl ?_)
  (refine r_pure a_neq rfl rfl ?_)
  refine arun_nil ?_
  refine thn_n ?_
  refine awp_cond _ rfl (fun h => ?_) (fun h => ?_)
  · have h4 : se ≠ 0 := by simpa using h
    rw [if_pos h4] at hP
    cases hP
    refine awp_seq ?_
    refine awp_text (by kernel_rfl) ?_
    (refine r_pure (b_build pl46 zr46 rfl rfl) rfl rfl ?_)
    (refine r_pure (a_move (r := .p _)) rfl rfl ?_)
    (refine r_run (a_storeAll (Y := .agg _) sz46 rfl (by first | exact Nat.eq_of_beq_eq_true rfl | (simp only [AV.cells, List.length_map]; first | assumption | omega)) (Nat.eq_of_beq_eq_true rfl)) rfl rfl ⟨rfl, trivial⟩ ?_)
    (refine r_pure (a_assign (r := .p _)) rfl rfl ?_)
    refine arun_nil ?_
    refine awp_ret (thn_r ?_)
    refine ⟨(by first | exact .inl rfl | exact .inr rfl), _, (fun o => o), (.cellN _ _ _ _ _ _ _ _ _ rfl rfl Try.underlying46 rfl sz46 (by first | assumption | kernel_rfl) (.tmp _ _ _ _ rfl .nil)), ?_, rfl, ?_, rfl⟩
    · exact rfl
    · exact trivial
  have h4 : se = 0 := by simpa using h
  clear h
  rw [if_neg (by simp [h4])] at hP
  rw [if_pos h4] at hKK
  subst hKK
  clear hS
  refine awp_skip (awp_seq (awp_seq ?_))
  refine awp_text (by kernel_rfl) ?_
  (refine r_pure (b_fieldAddr fi64_2 rfl) rfl rfl ?_)
  (refine r_run (a_load1 Try.underlying9 rfl (by first | rfl | assumption)) rfl rfl ⟨rfl, trivial⟩ ?_)
  (refine r_pure (a_lenStr Try.underlying9) rfl rfl ?_)
  (refine r_pure a_neq rfl rfl ?_)
  refine arun_nil ?_
  refine thn_n ?_
  refine awp_cond _ rfl (fun h => ?_) (fun h => ?_)
  · have h5 : nc.size ≠ 16 := by simp at h; omega
    rw [if_pos h5] at hP
    cases hP
    refine awp_seq ?_
    refine awp_text (by kernel_rfl) ?_
    (refine r_pure (b_build pl46 zr46 rfl rfl) rfl rfl ?_)
    (refine r_run (a_storeAll (Y := .agg _) sz46 rfl (by first | exact Nat.eq_of_beq_eq_true rfl | (simp only [AV.cells, List.length_map]; first | assumption | omega)) (Nat.eq_of_beq_eq_true rfl)) rfl rfl ⟨rfl, trivial⟩ ?_)
    (refine r_pure (a_assign (r := .p _)) rfl rfl ?_)
    refine arun_nil ?_
    refine awp_ret (thn_r ?_)
    refine ⟨(by first | exact .inl rfl | exact .inr rfl), _, (fun o => o), (.cellN _ _ _ _ _ _ _ _ _ rfl rfl Try.underlying46 rfl sz46 (by first | assumption | kernel_rfl) (.tmp _ _ _ _ rfl .nil)), ?_, rfl, ?_, rfl⟩
    · exact rfl
    · exact trivial
  have h5 : nc.size = 16 := by simp at h; omega
  clear h
  rw [if_neg (by simp [h5])] at hP
  have hx8 : (xs.take 8).length = 8 := by rw [List.length_take, hx]; rfl
  have hB8 : isB (xs.take 8) := fun x hx => hB x (List.mem_of_mem_take hx)
  have hBd : isB (xs.drop 8) := fun x hx => hB x (List.mem_of_mem_drop hx)
  have hm8 : ((bs xs).drop (0 * 1)).take (8 * 1) = bs (xs.take 8) := bs_mid xs 0 8
  have hd8 : ((bs xs).drop (8 * 1)).take (16 * 1) = bs (xs.drop 8) := bs_cutW hx rfl
  have hM := make_s K0 nc (hexS (xs.take 8)) true mine s now x0 x1 (by omega) (by omega) n0 n1
  rw [mkR_eq] at hM
  have hTx := text_s 8 (xs.take 8) hx8 hB8 (by omega)
  obtain ⟨u, hu⟩ : ∃ w, ANSWER ++ nc = w := ⟨_, rfl⟩
  have hu' : (⟨#[97, 110, 115, 119, 101, 114]⟩ : ByteArray) ++ nc = u := hu
  have hNa := shNum_s r
  have hNb := shNum_s s
  have hT := stag_s K0 (ANSWER ++ nc) (beI r) (beI s) (xs.take 8) hKey (beI_B r) (beI_B s) hB8 (by rw [hx8, cat_size, h5]; show (6 : Nat) + 16 + (4 + 4 + 8) ≤ 900; decide)
  rw [hx8] at hT
  change Fn Try.prog 83 [.p (.v (.string K0)), .p (.v (.string (ANSWER ++ nc))), .p (.sl 3 1 [.sl 4 1 (bs (beI r)), .sl 4 1 (bs (beI s)), .sl 8 1 (bs (xs.take 8))])] (.tup [.p (.sl 16 1 (bs (ansT K0 nc r s (xs.take 8)))), .p (.v (.int .i64 0))]) [] at hT
  rw [hu] at hT
  have hEq := bytesEqual_s 16 16 (ansT K0 nc r s (xs.take 8)) (xs.drop 8) (ansT_B _ _ _ _ _) hBd
  clear hu hB8 hBd
  generalize (if mkE K0 nc (hexS (xs.take 8)) true mine s now = 0 then mkKY K0 nc (hexS (xs.take 8)) true mine s now else KY0) = K2 at hP hM
  generalize mkE K0 nc (hexS (xs.take 8)) true mine s now = E2 at hP hM
  generalize hexS (xs.take 8) = hx8s at *
  generalize ansT K0 nc r s (xs.take 8) = T at *
  generalize bs (xs.take 8) = B8 at *
  generalize xs.drop 8 = X2 at *
  generalize beI r = BA at *
  generalize beI s = BF at *
  refine awp_skip (awp_seq ?_)
  refine awp_draw 4 (by kernel_rfl) ?_
  (refine r_pure (a_move (r := .p _)) rfl rfl ?_)
  (refine r_pure (b_fieldAddr fi64_2 rfl) rfl rfl ?_)
  (refine r_run (a_load1 Try.underlying9 rfl (by first | rfl | assumption)) rfl rfl ⟨rfl, trivial⟩ ?_)
  (refine r_pure (a_cat (by rw [h5]; decide) hu') rfl rfl ?_)
  (refine r_pure (b_fieldAddr fi58_2 rfl) rfl rfl ?_)
  (refine r_run (a_load1 Try.underlying3 rfl (by first | rfl | assumption)) rfl rfl ⟨rfl, trivial⟩ ?_)
  (refine r_callS (fun n => 63 + 1000 * n) (hNa) rfl rfl Try.func84 rfl rfl (by first | rfl | simp [AV.okInL, AV.okIn, okInL_map]) rfl rfl rfl (by first | exact trivial | exact ⟨rfl, trivial⟩ | exact ⟨rfl, rfl, trivial⟩) rfl rfl rfl ?_)
  (refine r_pure (b_fieldAddr fi58_1 rfl) rfl rfl ?_)
  (refine r_run (a_load1 Try.underlying3 rfl (by first | rfl | assumption)) rfl rfl ⟨rfl, trivial⟩ ?_)
  (refine r_callS (fun n => 66 + 1000 * n) (hNb) rfl rfl Try.func84 rfl rfl (by first | rfl | simp [AV.okInL, AV.okIn, okInL_map]) rfl rfl rfl (by first | exact trivial | exact ⟨rfl, trivial⟩ | exact ⟨rfl, rfl, trivial⟩) rfl rfl rfl ?_)
  (refine r_pure (b_fieldAddr fi58_4 rfl) rfl rfl ?_)
  (refine r_run (a_load1 Try.underlying50 rfl (by first | rfl | assumption)) rfl rfl ⟨rfl, trivial⟩ ?_)
  (refine r_pure (a_sliceS (L := none) (H := (some (_, _))) Try.underlying50 sz5 rfl ⟨by omega, (show _ = 8 from rfl)⟩ (by omega) (by omega) (show _ = 8 from rfl) hm8) rfl rfl ?_)
  (refine r_run (xs := [.p (.sl 4 1 (bs BA)), .p (.sl 4 1 (bs BF)), .p (.sl 8 1 B8)]) (a_buildSlice (es := [.p (.sl 4 1 (bs BA)), .p (.sl 4 1 (bs BF)), .p (.sl 8 1 B8)]) (cs := [.sl 4 1 (bs BA), .sl 4 1 (bs BF), .sl 8 1 B8]) 70 Try.underlying105 sz50 zc50 (Nat.le_of_ble_eq_true rfl) (Nat.le_of_ble_eq_true rfl) rfl (by kernel_rfl) (by kernel_rfl) (by kernel_rfl) (Nat.le_of_ble_eq_true rfl)) (by first | rfl | kernel_rfl) rfl ⟨rfl, trivial⟩ ?_)
  (refine r_callW (fun n => 71 + 1000 * n) (hT) rfl rfl Try.func83 rfl rfl rfl rfl rfl rfl rfl (by first | exact trivial | exact ⟨rfl, trivial⟩ | exact ⟨rfl, rfl, trivial⟩) rfl rfl rfl ?_)
  (refine r_pure (a_move (r := .tup _)) rfl rfl ?_)
  (refine r_pure (a_extract rfl) rfl rfl ?_)
  (refine r_pure (a_extract rfl) rfl rfl ?_)
  (refine r_pure (a_assign (r := .p _)) rfl rfl ?_)
  (refine r_pure (a_assign (r := .p _)) rfl rfl ?_)
  refine arun_nil ⟨by kernel_rfl, ?_⟩
  refine awp_seq (awp_seq ?_)
  refine awp_text (by kernel_rfl) ?_
  (refine r_pure (a_move (r := .p _)) rfl rfl ?_)
  (refine r_pure (b_fieldAddr fi58_4 rfl) rfl rfl ?_)
  (refine r_run (a_load1 Try.underlying50 rfl (by first | rfl | assumption)) rfl rfl ⟨rfl, trivial⟩ ?_)
  (refine r_pure (a_sliceS (L := (some (_, _))) (H := none) Try.underlying50 sz5 ⟨by omega, (show _ = 8 from rfl)⟩ rfl (by omega) (by omega) (show _ = 16 from rfl) hd8) rfl rfl ?_)
  (refine r_callS (fun n => 78 + 1000 * n) (hEq) rfl rfl Try.func93 rfl rfl (by first | rfl | simp [AV.okInL, AV.okIn, okInL_map]) rfl rfl rfl (by first | exact trivial | exact ⟨rfl, trivial⟩ | exact ⟨rfl, rfl, trivial⟩) rfl rfl rfl ?_)
  (refine r_pure a_not rfl rfl ?_)
  refine arun_nil ?_
  refine thn_n ?_
  refine awp_cond _ rfl (fun h => ?_) (fun h => ?_)
  · have h6 : T ≠ X2 := by simpa using h
    rw [if_pos h6] at hP
    cases hP
    refine awp_seq ?_
    refine awp_text (by kernel_rfl) ?_
    (refine r_pure (b_build pl46 zr46 rfl rfl) rfl rfl ?_)
    (refine r_run (a_storeAll (Y := .agg _) sz46 rfl (by first | exact Nat.eq_of_beq_eq_true rfl | (simp only [AV.cells, List.length_map]; first | assumption | omega)) (Nat.eq_of_beq_eq_true rfl)) rfl rfl ⟨rfl, trivial⟩ ?_)
    (refine r_pure (a_assign (r := .p _)) rfl rfl ?_)
    refine arun_nil ?_
    refine awp_ret (thn_r ?_)
    refine ⟨(by first | exact .inl rfl | exact .inr rfl), _, (fun o => o), (.cellN _ _ _ _ _ _ _ _ _ rfl rfl Try.underlying46 rfl sz46 (by first | assumption | kernel_rfl) (.tmp _ _ _ _ rfl .nil)), ?_, rfl, ?_, rfl⟩
    · exact rfl
    · exact trivial
  have h6 : T = X2 := by simpa using h
  clear h
  rw [if_neg (by simp [h6])] at hP
  cases hP
  refine awp_skip (awp_seq ?_)
  refine awp_draw 4 (by kernel_rfl) ?_
  (refine r_pure (a_move (r := .p _)) rfl rfl ?_)
  (refine r_pure (b_fieldAddr fi64_2 rfl) rfl rfl ?_)
  (refine r_run (a_load1 Try.underlying9 rfl (by first | rfl | assumption)) rfl rfl ⟨rfl, trivial⟩ ?_)
  (refine r_pure (b_fieldAddr fi58_4 rfl) rfl rfl ?_)
  (refine r_run (a_load1 Try.underlying50 rfl (by first | rfl | assumption)) rfl rfl ⟨rfl, trivial⟩ ?_)
  (refine r_pure (a_sliceS (L := none) (H := (some (_, _))) Try.underlying50 sz5 rfl ⟨by omega, (show _ = 8 from rfl)⟩ (by omega) (by omega) (show _ = 8 from rfl) hm8) rfl rfl ?_)
  (refine r_callS (fun n => 87 + 1000 * n) (hTx) rfl rfl Try.func94 rfl rfl (by first | rfl | simp [AV.okInL, AV.okIn, okInL_map]) rfl rfl rfl (by first | exact trivial | exact ⟨rfl, trivial⟩ | exact ⟨rfl, rfl, trivial⟩) rfl rfl rfl ?_)
  (refine r_pure (b_fieldAddr fi64_1 rfl) rfl rfl ?_)
  (refine r_run (a_load1 Try.underlying3 rfl (by first | rfl | assumption)) rfl rfl ⟨rfl, trivial⟩ ?_)
  (refine r_pure (b_fieldAddr fi58_1 rfl) rfl rfl ?_)
  (refine r_run (a_load1 Try.underlying3 rfl (by first | rfl | assumption)) rfl rfl ⟨rfl, trivial⟩ ?_)
  (refine r_pure (a_move (r := .p _)) rfl rfl ?_)
  (refine r_callV (fun n => 93 + 1000 * n) (hM) rfl rfl Try.func29 rfl rfl (by first | rfl | simp [AV.noSl, AV.noSlL, AObj.noSl, PV.isV, bs_noSl]) (by first | rfl | simp [AV.noSl, AV.noSlL, AObj.noSl, PV.isV, bs_noSl]) rfl rfl rfl (by first | exact trivial | exact ⟨rfl, trivial⟩ | exact ⟨rfl, rfl, trivial⟩) rfl rfl rfl ?_)
  (refine r_pure (a_extract rfl) rfl rfl ?_)
  (refine r_pure (a_extract rfl) rfl rfl ?_)
  refine r_run (a_storeAll (Y := .agg K1.cells) sz46 rfl rfl (Nat.eq_of_beq_eq_true rfl)) rfl rfl ⟨rfl, trivial⟩ ?_
  (refine r_pure (a_assign (r := .p _)) rfl rfl ?_)
  refine arun_nil ⟨by kernel_rfl, ?_⟩
  refine awp_ret ?_
  refine ⟨(by first | exact .inl rfl | exact .inr rfl), _, (fun o => o), (.cellN _ _ _ _ _ _ _ _ _ rfl rfl Try.underlying46 rfl sz46 (by first | assumption | kernel_rfl) (.tmp _ _ _ _ rfl .nil)), ?_, rfl, ?_, rfl⟩
  · exact rfl
  · exact trivial

theorem nums_ne {xs ys : List Int} (hx : isB xs) (hy : isB ys) (h : xs ≠ ys) : strOfNums xs ≠ strOfNums ys := fun e => h (by rw [← sb_nums hx, ← sb_nums hy, e])
set_option maxHeartbeats 4000000 in
theorem refFinish_s (a b sh : ByteArray) (x : HS) (m : MS) (now : Int) (hsh : sh.size ≤ 140737488351232) (hx : m.xs.length = m.n) (hB : isB m.xs) (hm : m.n ≤ 140737488351232)
    (x0 : -9223372036854775808 ≤ x.mine) (x1 : x.mine ≤ 9223372036854775807) (n0 : -9223372036854775808 ≤ now) (n1 : now ≤ 9223372036854775807) :
    Fn Try.prog 40 [.p (.v (.string a)), .p (.v (.string b)), .p (.v (.string sh)), .agg x.cells, .agg m.cells, .p (.v (.int .i64 now))] (.tup [.agg (finP a b sh x m now).1.cells, .p (.v (.int .i64 (finP a b sh x m now).2))]) [] := by
  obtain ⟨lv, mine, nc, hb, hs⟩ := x
  obtain ⟨t, s, r, c, n, xs⟩ := m
  have hC := refWFault_s ⟨t, s, r, c, n, xs⟩ (by show n ≤ _; have : n ≤ 140737488351232 := hm; omega)
  have hS := refSecret_s a b sh hsh
  obtain ⟨⟨K1, E1⟩, hP⟩ : ∃ P, finP a b sh ⟨lv, mine, nc, hb, hs⟩ ⟨t, s, r, c, n, xs⟩ now = P := ⟨_, rfl⟩
  rw [hP]
  have hn2 := wE_n2 (m := ⟨t, s, r, c, n, xs⟩)
  have hgd := wE_good (m := ⟨t, s, r, c, n, xs⟩)
  unfold finP at hP
  dsimp only at hP hx hB hm x0 x1 hn2 hgd
  have hcs : (MS.mk t s r c n xs).cells = [.p (.v (.int .i64 t)), .p (.v (.int .i64 s)), .p (.v (.int .i64 r)), .p (.v (.int .i64 c)), .p (.sl n 1 (bs xs))] := rfl
  have hxs : (HS.mk lv mine nc hb hs).cells = [.p (.v (.bool lv)), .p (.v (.int .i64 mine)), .p (.v (.string nc)), .p (.v (.int .i64 hb)), .p (.v (.int .i64 hs))] := rfl
  rw [hcs] at hC ⊢
  rw [hxs]
  clear hcs hxs
  change Fn _ _ _ (.tup [.agg K1.cells, .p (.v (.int .i64 E1))]) _
  generalize wE (MS.mk t s r c n xs) = wm at *
  unfold sRes at hS
  generalize hKK : (if secE a b sh = 0 then secS a b sh else ⟨#[]⟩) = K at hS
  have hKey := keyE_secS a b sh
  generalize secS a b sh = K0 at *
  generalize secE a b sh = se at *
  refine fn_intro Try.func40 rfl (Nat.le_of_ble_eq_true rfl) fun w0 A => ?_
  refine awp_seq ?_
  refine awp_text (by kernel_rfl) ?_
  (refine r_run (a_box (X := .agg _) 9 rfl) rfl rfl ⟨rfl, trivial⟩ ?_)
  (refine r_run (a_box (X := .agg _) 10 rfl) rfl rfl ⟨rfl, trivial⟩ ?_)
  (refine r_run (a_alloc 12 zr46 rfl) rfl rfl ⟨rfl, trivial⟩ ?_)
  (refine r_pure (a_assign (r := .p _)) rfl rfl ?_)
  refine arun_nil ?_
  refine awp_seq (awp_seq ?_)
  refine awp_text (by kernel_rfl) ?_
  (refine r_run (a_loadN Try.underlying58 rfl sz58 (by first | exact Nat.le_of_ble_eq_true rfl | omega | (simp only [AV.cells, List.length_map]; omega)) (by first | exact take_all (by first | assumption | exact Nat.eq_of_beq_eq_true rfl | (simp only [AV.cells, List.length_map]; first | assumption | omega)) | (simp only [List.take_succ_cons, List.take_zero, List.drop_succ_cons, List.drop_zero]; rfl) | rfl)) rfl rfl ⟨rfl, trivial⟩ ?_)
  (refine r_callV (fun n => 19 + 1000 * n) (hC) rfl rfl Try.func92 rfl rfl (by first | rfl | simp [AV.noSl, AV.noSlL, AObj.noSl, PV.isV, bs_noSl]) (by first | rfl | simp [AV.noSl, AV.noSlL, AObj.noSl, PV.isV, bs_noSl]) rfl rfl rfl (by first | exact trivial | exact ⟨rfl, trivial⟩ | exact ⟨rfl, rfl, trivial⟩) rfl rfl rfl ?_)
  (refine r_pure (a_assign (r := .p _)) rfl rfl ?_)
  refine arun_nil ?_
  refine awp_seq ?_
  refine awp_text (by kernel_rfl) ?_
  (refine r_pure (a_move (r := .p _)) rfl rfl ?_)
  (refine r_pure a_neq rfl rfl ?_)
  refine arun_nil ?_
  refine thn_n ?_
  refine awp_cond _ rfl (fun h => ?_) (fun h => ?_)
  · have h1 : wm ≠ 0 := by simpa using h
    rw [if_pos h1] at hP
    cases hP
    refine awp_seq ?_
    refine awp_text (by kernel_rfl) ?_
    (refine r_pure (b_build pl46 zr46 rfl rfl) rfl rfl ?_)
    (refine r_pure (a_move (r := .p _)) rfl rfl ?_)
    (refine r_run (a_storeAll (Y := .agg _) sz46 rfl (by first | exact Nat.eq_of_beq_eq_true rfl | (simp only [AV.cells, List.length_map]; first | assumption | omega)) (Nat.eq_of_beq_eq_true rfl)) rfl rfl ⟨rfl, trivial⟩ ?_)
    (refine r_pure (a_assign (r := .p _)) rfl rfl ?_)
    refine arun_nil ?_
    refine awp_ret (thn_r ?_)
    refine ⟨(by first | exact .inl rfl | exact .inr rfl), _, (fun o => o), (.cellN _ _ _ _ _ _ _ _ _ rfl rfl Try.underlying46 rfl sz46 (by first | assumption | kernel_rfl) (.tmp _ _ _ _ rfl .nil)), ?_, rfl, ?_, rfl⟩
    · exact rfl
    · exact trivial
  have h1 : wm = 0 := by simpa using h
  clear h
  rw [if_neg (by simp [h1])] at hP
  refine awp_skip (awp_seq (awp_seq ?_))
  refine awp_text (by kernel_rfl) ?_
  (refine r_pure (b_fieldAddr fi58_0 rfl) rfl rfl ?_)
  (refine r_run (a_load1 Try.underlying3 rfl (by first | rfl | assumption)) rfl rfl ⟨rfl, trivial⟩ ?_)
  (refine r_pure a_neq rfl rfl ?_)
  refine arun_nil ?_
  refine thn_n ?_
  refine awp_cond _ rfl (fun h => ?_) (fun h => ?_)
  · have h2 : t ≠ 2 := by simpa using h
    rw [if_pos h2] at hP
    cases hP
    refine awp_seq ?_
    refine awp_text (by kernel_rfl) ?_
    (refine r_pure (b_build pl46 zr46 rfl rfl) rfl rfl ?_)
    (refine r_run (a_storeAll (Y := .agg _) sz46 rfl (by first | exact Nat.eq_of_beq_eq_true rfl | (simp only [AV.cells, List.length_map]; first | assumption | omega)) (Nat.eq_of_beq_eq_true rfl)) rfl rfl ⟨rfl, trivial⟩ ?_)
    (refine r_pure (a_assign (r := .p _)) rfl rfl ?_)
    refine arun_nil ?_
    refine awp_ret (thn_r ?_)
    refine ⟨(by first | exact .inl rfl | exact .inr rfl), _, (fun o => o), (.cellN _ _ _ _ _ _ _ _ _ rfl rfl Try.underlying46 rfl sz46 (by first | assumption | kernel_rfl) (.tmp _ _ _ _ rfl .nil)), ?_, rfl, ?_, rfl⟩
    · exact rfl
    · exact trivial
  have h2 : t = 2 := by simpa using h
  clear h
  rw [if_neg (by simp [h2])] at hP
  obtain rfl := hn2 h1 h2
  obtain ⟨_, _, s0, s1, r0, r1, _, _⟩ := hgd h1
  clear hn2 hgd
  refine awp_skip (awp_seq (awp_seq ?_))
  refine awp_text (by kernel_rfl) ?_
  (refine r_pure (b_fieldAddr fi64_0 rfl) rfl rfl ?_)
  (refine r_run (a_load1 Try.underlying4 rfl (by first | rfl | assumption)) rfl rfl ⟨rfl, trivial⟩ ?_)
  (refine r_pure a_not rfl rfl ?_)
  (refine r_pure (a_move (r := .p _)) rfl rfl ?_)
  (refine r_mb2 _ rfl rfl (by (repeat (first | exact stripOK_nil | refine stripOK_mb id ?_ | refine stripOK_p ?_ | refine stripOK_ref ?_ | refine stripOK_row ?_ | refine stripOK_ptr ?_ | refine stripOK_agg ?_ | refine stripOK_mb (by simp_all) ?_ | refine StripOK.plain _ _ rfl ?_))) (fun hb => (b_fieldAddr fi64_1 rfl)) (fun _ => trivial) ?_)
  (refine r_mb2 _ rfl rfl (by (repeat (first | exact stripOK_nil | refine stripOK_mb id ?_ | refine stripOK_p ?_ | refine stripOK_ref ?_ | refine stripOK_row ?_ | refine stripOK_ptr ?_ | refine stripOK_agg ?_ | refine stripOK_mb (by simp_all) ?_ | refine StripOK.plain _ _ rfl ?_))) (fun hb => (a_load1 Try.underlying3 rfl (by first | rfl | assumption))) (fun _ => ⟨rfl, trivial⟩) ?_)
  (refine r_mb2 _ rfl rfl (by (repeat (first | exact stripOK_nil | refine stripOK_mb id ?_ | refine stripOK_p ?_ | refine stripOK_ref ?_ | refine stripOK_row ?_ | refine stripOK_ptr ?_ | refine stripOK_agg ?_ | refine stripOK_mb (by simp_all) ?_ | refine StripOK.plain _ _ rfl ?_))) (fun hb => (b_fieldAddr fi58_2 rfl)) (fun _ => trivial) ?_)
  (refine r_mb2 _ rfl rfl (by (repeat (first | exact stripOK_nil | refine stripOK_mb id ?_ | refine stripOK_p ?_ | refine stripOK_ref ?_ | refine stripOK_row ?_ | refine stripOK_ptr ?_ | refine stripOK_agg ?_ | refine stripOK_mb (by simp_all) ?_ | refine StripOK.plain _ _ rfl ?_))) (fun hb => (a_load1 Try.underlying3 rfl (by first | rfl | assumption))) (fun _ => ⟨rfl, trivial⟩) ?_)
  (refine r_mb2 _ rfl rfl (by (repeat (first | exact stripOK_nil | refine stripOK_mb id ?_ | refine stripOK_p ?_ | refine stripOK_ref ?_ | refine stripOK_row ?_ | refine stripOK_ptr ?_ | refine stripOK_agg ?_ | refine stripOK_mb (by simp_all) ?_ | refine StripOK.plain _ _ rfl ?_))) (fun hb => a_neq) (fun _ => trivial) ?_)
  (refine r_pure (a_or (by first | exact id | (simp; done) | grind)) rfl rfl ?_)
  refine arun_nil ?_
  refine thn_n ?_
  refine awp_cond _ rfl (fun h => ?_) (fun h => ?_)
  · have h3 : lv = false ∨ r ≠ mine := by revert h; cases lv <;> simp; omega
    rw [if_pos h3] at hP
    cases hP
    refine awp_seq ?_
    refine awp_text (by kernel_rfl) ?_
    (refine r_pure (b_build pl46 zr46 rfl rfl) rfl rfl ?_)
    (refine r_run (a_storeAll (Y := .agg _) sz46 rfl (by first | exact Nat.eq_of_beq_eq_true rfl | (simp only [AV.cells, List.length_map]; first | assumption | omega)) (Nat.eq_of_beq_eq_true rfl)) rfl rfl ⟨rfl, trivial⟩ ?_)
    (refine r_pure (a_assign (r := .p _)) rfl rfl ?_)
    refine arun_nil ?_
    refine awp_ret (thn_r ?_)
    refine ⟨(by first | exact .inl rfl | exact .inr rfl), _, (fun o => o), (.cellN _ _ _ _ _ _ _ _ _ rfl rfl Try.underlying46 rfl sz46 (by first | assumption | kernel_rfl) (.tmp _ _ _ _ rfl .nil)), ?_, rfl, ?_, rfl⟩
    · exact rfl
    · exact trivial
  have h3 : ¬ (lv = false ∨ r ≠ mine) := by revert h; cases lv <;> simp; omega
  clear h
  rw [if_neg h3] at hP
  refine awp_skip (awp_seq ?_)
  refine awp_text (by kernel_rfl) ?_
  (refine r_pure (a_move (r := .p _)) rfl rfl ?_)
  (refine r_pure (a_move (r := .p _)) rfl rfl ?_)
  (refine r_pure (a_move (r := .p _)) rfl rfl ?_)
  (refine r_callV (fun n => 43 + 1000 * n) (hS) rfl rfl Try.func87 rfl rfl (by first | rfl | simp [AV.noSl, AV.noSlL, AObj.noSl, PV.isV, bs_noSl]) (by first | rfl | simp [AV.noSl, AV.noSlL, AObj.noSl, PV.isV, bs_noSl]) rfl rfl rfl (by first | exact trivial | exact ⟨rfl, trivial⟩ | exact ⟨rfl, rfl, trivial⟩) rfl rfl rfl ?_)
  (refine r_pure (a_move (r := .tup _)) rfl rfl ?_)
  (refine r_pure (a_extract rfl) rfl rfl ?_)
  (refine r_pure (a_extract rfl) rfl rfl ?_)
  (refine r_pure (a_assign (r := .p _)) rfl rfl ?_)
  (refine r_pure (a_assign (r := .p _)) rfl rfl ?_)
  refine arun_nil ?_
  refine awp_seq (awp_seq ?_)
  refine awp_text (by kernel_rfl) ?_
  (refine r_pure (a_move (r := .p _)) rfl rfl ?_)
  (refine r_pure a_neq rfl rfl ?_)
  refine arun_nil ?_
  refine thn_n ?_
  refine awp_cond _ rfl (fun h => ?_) (fun h => ?_)
  · have h4 : se ≠ 0 := by simpa using h
    rw [if_pos h4] at hP
    cases hP
    refine awp_seq ?_
    refine awp_text (by kernel_rfl) ?_
    (refine r_pure (b_build pl46 zr46 rfl rfl) rfl rfl ?_)
    (refine r_pure (a_move (r := .p _)) rfl rfl ?_)
    (refine r_run (a_storeAll (Y := .agg _) sz46 rfl (by first | exact Nat.eq_of_beq_eq_true rfl | (simp only [AV.cells, List.length_map]; first | assumption | omega)) (Nat.eq_of_beq_eq_true rfl)) rfl rfl ⟨rfl, trivial⟩ ?_)
    (refine r_pure (a_assign (r := .p _)) rfl rfl ?_)
    refine arun_nil ?_
    refine awp_ret (thn_r ?_)
    refine ⟨(by first | exact .inl rfl | exact .inr rfl), _, (fun o => o), (.cellN _ _ _ _ _ _ _ _ _ rfl rfl Try.underlying46 rfl sz46 (by first | assumption | kernel_rfl) (.tmp _ _ _ _ rfl .nil)), ?_, rfl, ?_, rfl⟩
    · exact rfl
    · exact trivial
  have h4 : se = 0 := by simpa using h
  clear h
  rw [if_neg (by simp [h4])] at hP
  rw [if_pos h4] at hKK
  subst hKK
  clear hS
  refine awp_skip (awp_seq (awp_seq ?_))
  refine awp_text (by kernel_rfl) ?_
  (refine r_pure (b_fieldAddr fi64_2 rfl) rfl rfl ?_)
  (refine r_run (a_load1 Try.underlying9 rfl (by first | rfl | assumption)) rfl rfl ⟨rfl, trivial⟩ ?_)
  (refine r_pure (a_lenStr Try.underlying9) rfl rfl ?_)
  (refine r_pure a_neq rfl rfl ?_)
  refine arun_nil ?_
  refine thn_n ?_
  refine awp_cond _ rfl (fun h => ?_) (fun h => ?_)
  · have h5 : nc.size ≠ 16 := by simp at h; omega
    rw [if_pos h5] at hP
    cases hP
    refine awp_seq ?_
    refine awp_text (by kernel_rfl) ?_
    (refine r_pure (b_build pl46 zr46 rfl rfl) rfl rfl ?_)
    (refine r_run (a_storeAll (Y := .agg _) sz46 rfl (by first | exact Nat.eq_of_beq_eq_true rfl | (simp only [AV.cells, List.length_map]; first | assumption | omega)) (Nat.eq_of_beq_eq_true rfl)) rfl rfl ⟨rfl, trivial⟩ ?_)
    (refine r_pure (a_assign (r := .p _)) rfl rfl ?_)
    refine arun_nil ?_
    refine awp_ret (thn_r ?_)
    refine ⟨(by first | exact .inl rfl | exact .inr rfl), _, (fun o => o), (.cellN _ _ _ _ _ _ _ _ _ rfl rfl Try.underlying46 rfl sz46 (by first | assumption | kernel_rfl) (.tmp _ _ _ _ rfl .nil)), ?_, rfl, ?_, rfl⟩
    · exact rfl
    · exact trivial
  have h5 : nc.size = 16 := by simp at h; omega
  clear h
  rw [if_neg (by simp [h5])] at hP
  have hx8 : (xs.take 8).length = 8 := by rw [List.length_take, hx]; rfl
  have hB8 : isB (xs.take 8) := fun x hx => hB x (List.mem_of_mem_take hx)
  have hBd : isB (xs.drop 8) := fun x hx => hB x (List.mem_of_mem_drop hx)
  have hm8 : ((bs xs).drop (0 * 1)).take (8 * 1) = bs (xs.take 8) := bs_mid xs 0 8
  have hd8 : ((bs xs).drop (8 * 1)).take (16 * 1) = bs (xs.drop 8) := bs_cutW hx rfl
  have hM := refMake_s K0 nc (hexS (xs.take 8)) true mine s now x0 x1 (by omega) (by omega) n0 n1
  rw [mkR_eq] at hM
  have hTx := refText_s 8 (xs.take 8) hx8 hB8 (by omega)
  have hT := answerTag_s K0 nc r s (xs.take 8) hKey h5 hx8 hB8 (by omega) (by omega) (by omega) (by omega)
  have hne : ansT K0 nc r s (xs.take 8) ≠ xs.drop 8 → strOfNums (ansT K0 nc r s (xs.take 8)) ≠ strOfNums (xs.drop 8) := nums_ne (ansT_B _ _ _ _ _) hBd
  clear hBd
  generalize (if mkE K0 nc (hexS (xs.take 8)) true mine s now = 0 then mkKY K0 nc (hexS (xs.take 8)) true mine s now else KY0) = K2 at hP hM
  generalize mkE K0 nc (hexS (xs.take 8)) true mine s now = E2 at hP hM
  generalize hexS (xs.take 8) = hx8s at *
  generalize ansT K0 nc r s (xs.take 8) = T at *
  generalize bs (xs.take 8) = B8 at *
  generalize xs.drop 8 = X2 at *
  refine awp_skip (awp_seq ?_)
  refine awp_text (by kernel_rfl) ?_
  (refine r_pure (b_fieldAddr fi58_4 rfl) rfl rfl ?_)
  (refine r_run (a_load1 Try.underlying50 rfl (by first | rfl | assumption)) rfl rfl ⟨rfl, trivial⟩ ?_)
  (refine r_pure (a_sliceS (L := none) (H := (some (_, _))) Try.underlying50 sz5 rfl ⟨by omega, (show _ = 8 from rfl)⟩ (by omega) (by omega) (show _ = 8 from rfl) hm8) rfl rfl ?_)
  (refine r_pure (a_assign (r := .p _)) rfl rfl ?_)
  refine arun_nil ?_
  refine awp_seq (awp_seq ?_)
  refine awp_draw 4 (by kernel_rfl) ?_
  (refine r_pure (a_move (r := .p _)) rfl rfl ?_)
  (refine r_pure (b_fieldAddr fi64_2 rfl) rfl rfl ?_)
  (refine r_run (a_load1 Try.underlying9 rfl (by first | rfl | assumption)) rfl rfl ⟨rfl, trivial⟩ ?_)
  (refine r_pure (b_fieldAddr fi58_2 rfl) rfl rfl ?_)
  (refine r_run (a_load1 Try.underlying3 rfl (by first | rfl | assumption)) rfl rfl ⟨rfl, trivial⟩ ?_)
  (refine r_pure (b_fieldAddr fi58_1 rfl) rfl rfl ?_)
  (refine r_run (a_load1 Try.underlying3 rfl (by first | rfl | assumption)) rfl rfl ⟨rfl, trivial⟩ ?_)
  (refine r_pure (a_move (r := .p _)) rfl rfl ?_)
  (refine r_callS (fun n => 66 + 1000 * n) (hT) rfl rfl Try.func95 rfl rfl (by first | rfl | simp [AV.okInL, AV.okIn, okInL_map]) rfl rfl rfl (by first | exact trivial | exact ⟨rfl, trivial⟩ | exact ⟨rfl, rfl, trivial⟩) rfl rfl rfl ?_)
  (refine r_run (a_b2s Try.underlying50 Try.underlying5 Try.underlying9 (src_sl) rfl rfl) rfl rfl trivial ?_)
  (refine r_pure (b_fieldAddr fi58_4 rfl) rfl rfl ?_)
  (refine r_run (a_load1 Try.underlying50 rfl (by first | rfl | assumption)) rfl rfl ⟨rfl, trivial⟩ ?_)
  (refine r_pure (a_sliceS (L := (some (_, _))) (H := none) Try.underlying50 sz5 ⟨by omega, (show _ = 8 from rfl)⟩ rfl (by omega) (by omega) (show _ = 16 from rfl) hd8) rfl rfl ?_)
  (refine r_run (a_b2s Try.underlying50 Try.underlying5 Try.underlying9 (src_sl) rfl rfl) rfl rfl trivial ?_)
  (refine r_pure a_sneq rfl rfl ?_)
  refine arun_nil ⟨by kernel_rfl, ?_⟩
  refine thn_n ?_
  refine awp_cond _ rfl (fun h => ?_) (fun h => ?_)
  · have h6 : T ≠ X2 := by rintro rfl; simp at h
    rw [if_pos h6] at hP
    cases hP
    refine awp_seq ?_
    refine awp_text (by kernel_rfl) ?_
    (refine r_pure (b_build pl46 zr46 rfl rfl) rfl rfl ?_)
    (refine r_run (a_storeAll (Y := .agg _) sz46 rfl (by first | exact Nat.eq_of_beq_eq_true rfl | (simp only [AV.cells, List.length_map]; first | assumption | omega)) (Nat.eq_of_beq_eq_true rfl)) rfl rfl ⟨rfl, trivial⟩ ?_)
    (refine r_pure (a_assign (r := .p _)) rfl rfl ?_)
    refine arun_nil ?_
    refine awp_ret (thn_r ?_)
    refine ⟨(by first | exact .inl rfl | exact .inr rfl), _, (fun o => o), (.cellN _ _ _ _ _ _ _ _ _ rfl rfl Try.underlying46 rfl sz46 (by first | assumption | kernel_rfl) (.tmp _ _ _ _ rfl .nil)), ?_, rfl, ?_, rfl⟩
    · exact rfl
    · exact trivial
  have h6 : T = X2 := by
    by_cases e : T = X2
    · exact e
    · exact absurd h (by simp [hne e])
  clear h
  rw [if_neg (by simp [h6])] at hP
  cases hP
  refine awp_skip (awp_seq ?_)
  refine awp_draw 4 (by kernel_rfl) ?_
  (refine r_pure (a_move (r := .p _)) rfl rfl ?_)
  (refine r_pure (b_fieldAddr fi64_2 rfl) rfl rfl ?_)
  (refine r_run (a_load1 Try.underlying9 rfl (by first | rfl | assumption)) rfl rfl ⟨rfl, trivial⟩ ?_)
  (refine r_pure (a_move (r := .p _)) rfl rfl ?_)
  (refine r_callS (fun n => 78 + 1000 * n) (hTx) rfl rfl Try.func96 rfl rfl (by first | rfl | simp [AV.okInL, AV.okIn, okInL_map]) rfl rfl rfl (by first | exact trivial | exact ⟨rfl, trivial⟩ | exact ⟨rfl, rfl, trivial⟩) rfl rfl rfl ?_)
  (refine r_pure (b_fieldAddr fi64_1 rfl) rfl rfl ?_)
  (refine r_run (a_load1 Try.underlying3 rfl (by first | rfl | assumption)) rfl rfl ⟨rfl, trivial⟩ ?_)
  (refine r_pure (b_fieldAddr fi58_1 rfl) rfl rfl ?_)
  (refine r_run (a_load1 Try.underlying3 rfl (by first | rfl | assumption)) rfl rfl ⟨rfl, trivial⟩ ?_)
  (refine r_pure (a_move (r := .p _)) rfl rfl ?_)
  (refine r_callV (fun n => 84 + 1000 * n) (hM) rfl rfl Try.func30 rfl rfl (by first | rfl | simp [AV.noSl, AV.noSlL, AObj.noSl, PV.isV, bs_noSl]) (by first | rfl | simp [AV.noSl, AV.noSlL, AObj.noSl, PV.isV, bs_noSl]) rfl rfl rfl (by first | exact trivial | exact ⟨rfl, trivial⟩ | exact ⟨rfl, rfl, trivial⟩) rfl rfl rfl ?_)
  (refine r_pure (a_extract rfl) rfl rfl ?_)
  (refine r_pure (a_extract rfl) rfl rfl ?_)
  refine r_run (a_storeAll (Y := .agg K1.cells) sz46 rfl rfl (Nat.eq_of_beq_eq_true rfl)) rfl rfl ⟨rfl, trivial⟩ ?_
  (refine r_pure (a_assign (r := .p _)) rfl rfl ?_)
  refine arun_nil ⟨by kernel_rfl, ?_⟩
  refine awp_ret ?_
  refine ⟨(by first | exact .inl rfl | exact .inr rfl), _, (fun o => o), (.cellN _ _ _ _ _ _ _ _ _ rfl rfl Try.underlying46 rfl sz46 (by first | assumption | kernel_rfl) (.tmp _ _ _ _ rfl .nil)), ?_, rfl, ?_, rfl⟩
  · exact rfl
  · exact trivial
end Go.Proofs.Ytckkmfoccefcfaa
