/- shake.Finish, its reference, over data. -/
import Derived.Test.YtmdkfhmmhiofbaaSk2
--%T
namespace Go.Proofs.Ytmdkfhmmhiofbaa
open Go.RowKit Go.Sort
set_option linter.unusedVariables false
set_option linter.unusedSimpArgs false
set_option maxRecDepth 100000

def ANSWER : ByteArray := ⟨#[97, 110, 115, 119, 101, 114]⟩
def ansIn (u : ByteArray) (to fr : Int) (n : List Int) : List Int := sb (ANSWER ++ u) ++ (beI to ++ beI fr ++ n)
def ansT (k u : ByteArray) (to fr : Int) (n : List Int) : List Int := (macD k (ansIn u to fr n)).take 16
theorem ansT_len (k u : ByteArray) (to fr : Int) (n : List Int) : (ansT k u to fr n).length = 16 := by rw [ansT, List.length_take, macD_len]; rfl
theorem ansT_B (k u : ByteArray) (to fr : Int) (n : List Int) : isB (ansT k u to fr n) := fun x hx => macD_B _ _ x (List.mem_of_mem_take hx)
theorem answerTag_s (k u : ByteArray) (to fr : Int) (xs : List Int) (hk : keyE k = 0) (hu : u.size = 16) (hx : xs.length = 8) (hB : isB xs)
    (t0 : -9223372036854775808 ≤ to) (t1 : to ≤ 9223372036854775807) (f0 : -9223372036854775808 ≤ fr) (f1 : fr ≤ 9223372036854775807) :
    Fn Try.prog 25 [.p (.v (.string k)), .p (.v (.string u)), .p (.v (.int .i64 to)), .p (.v (.int .i64 fr)), .p (.sl 8 1 (bs xs))] (.p (.sl 16 1 (bs (ansT k u to fr xs)))) [] := by
  have hN1 := bigZ_s to t0 t1
  have hN2 := bigZ_s fr f0 f1
  obtain ⟨u0, hu0⟩ : ∃ w, ANSWER ++ u = w := ⟨_, rfl⟩
  obtain ⟨u1, hu1⟩ : ∃ w, u0 ++ strOfNums (beI to) = w := ⟨_, rfl⟩
  obtain ⟨u2, hu2⟩ : ∃ w, u1 ++ strOfNums (beI fr) = w := ⟨_, rfl⟩
  obtain ⟨u3, hu3⟩ : ∃ w, u2 ++ strOfNums xs = w := ⟨_, rfl⟩
  have zA : (strOfNums (beI to)).size = 4 := by rw [nums_size]; rfl
  have zF : (strOfNums (beI fr)).size = 4 := by rw [nums_size]; rfl
  have zX : (strOfNums xs).size = 8 := by rw [nums_size, hx]
  have z0 : u0.size = 22 := by rw [← hu0, cat_size, hu]; rfl
  have z1 : u1.size = 26 := by rw [← hu1, cat_size, z0, zA]
  have z2 : u2.size = 30 := by rw [← hu2, cat_size, z1, zF]
  have z3 : u3.size = 38 := by rw [← hu3, cat_size, z2, zX]
  have zs3 : sb u3 = ansIn u to fr xs := by
    rw [← hu3, sb_cat, sb_nums hB, ← hu2, sb_cat, sb_nums (beI_B fr), ← hu1, sb_cat, sb_nums (beI_B to), ansIn, hu0]
    simp
  have hB2 : isB (ansIn u to fr xs) := isB_app (sb_isB _) (isB_app (isB_app (beI_B to) (beI_B fr)) hB)
  have hlen : (ansIn u to fr xs).length = 38 := by rw [← zs3, sb_length, z3]
  have hT := refTag_s k 38 (ansIn u to fr xs) hlen hB2
  obtain ⟨e1, e2⟩ := bRes_good (show macE k 38 = 0 by unfold macE; rw [if_pos hk, if_neg (by decide)]) 32 (macD k (ansIn u to fr xs))
  rw [e1, e2] at hT
  clear e1 e2
  have hbl : (bs (macD k (ansIn u to fr xs))).length = 32 := by rw [bs_length]; exact macD_len _ _
  have ht16 : bs (ansT k u to fr xs) = ((bs (macD k (ansIn u to fr xs))).drop 0).take (16 * 1) := by simp [ansT, bs, List.map_take]
  rw [ht16]
  clear ht16 hB2 hlen
  generalize ansIn u to fr xs = Z at *
  generalize macD k Z = D at *
  generalize beI to = BA at *
  generalize beI fr = BF at *
  refine fn_intro Try.func25 rfl (Nat.le_of_ble_eq_true rfl) fun w0 A => ?_
  refine awp_seq ?_
  refine awp_text (by kernel_rfl) ?_
  (refine r_pure (a_assign (r := .p _)) rfl rfl ?_)
  refine arun_nil ?_
  refine awp_seq ?_
  refine awp_draw 4 (by kernel_rfl) ?_
  (refine r_pure (a_move (r := .p _)) rfl rfl ?_)
  (refine r_pure (a_move (r := .p _)) rfl rfl ?_)
  (refine r_pure (a_cat (by rw [hu]; decide) (show (⟨#[97, 110, 115, 119, 101, 114]⟩ : ByteArray) ++ u = u0 from hu0)) rfl rfl ?_)
  (refine r_pure (a_move (r := .p _)) rfl rfl ?_)
  (refine r_callV (fun n => 18 + 1000 * n) (hN1) rfl rfl Try.func41 rfl rfl (by first | rfl | simp [AV.noSl, AV.noSlL, AObj.noSl, PV.isV, bs_noSl]) (by first | rfl | simp [AV.noSl, AV.noSlL, AObj.noSl, PV.isV, bs_noSl]) rfl rfl rfl (by first | exact trivial | exact ⟨rfl, trivial⟩ | exact ⟨rfl, rfl, trivial⟩) rfl rfl rfl ?_)
  (refine r_run (a_b2s Try.underlying22 Try.underlying5 Try.underlying9 (src_row) rfl rfl) rfl rfl ⟨rfl, trivial⟩ ?_)
  (refine r_pure (a_cat (by rw [z0, zA]; decide) hu1) rfl rfl ?_)
  (refine r_pure (a_move (r := .p _)) rfl rfl ?_)
  (refine r_callV (fun n => 22 + 1000 * n) (hN2) rfl rfl Try.func41 rfl rfl (by first | rfl | simp [AV.noSl, AV.noSlL, AObj.noSl, PV.isV, bs_noSl]) (by first | rfl | simp [AV.noSl, AV.noSlL, AObj.noSl, PV.isV, bs_noSl]) rfl rfl rfl (by first | exact trivial | exact ⟨rfl, trivial⟩ | exact ⟨rfl, rfl, trivial⟩) rfl rfl rfl ?_)
  (refine r_run (a_b2s Try.underlying22 Try.underlying5 Try.underlying9 (src_row) rfl rfl) rfl rfl ⟨rfl, trivial⟩ ?_)
  (refine r_pure (a_cat (by rw [z1, zF]; decide) hu2) rfl rfl ?_)
  (refine r_pure (a_move (r := .p _)) rfl rfl ?_)
  (refine r_run (a_b2s Try.underlying22 Try.underlying5 Try.underlying9 (src_sl) rfl rfl) rfl rfl trivial ?_)
  (refine r_pure (a_cat (by rw [z2, zX]; decide) hu3) rfl rfl ?_)
  (refine r_run (a_s2b 28 Try.underlying9 Try.underlying22 Try.underlying5 (by first | omega | (simp only [maxLen]; omega)) z3 zs3) rfl rfl ⟨rfl, trivial⟩ ?_)
  (refine r_callV (fun n => 29 + 1000 * n) (hT) rfl rfl Try.func40 rfl rfl (by first | rfl | simp [AV.noSl, AV.noSlL, AObj.noSl, PV.isV, bs_noSl]) (by first | rfl | simp [AV.noSl, AV.noSlL, AObj.noSl, PV.isV, bs_noSl]) rfl rfl rfl (by first | exact trivial | exact ⟨rfl, trivial⟩ | exact ⟨rfl, rfl, trivial⟩) rfl rfl rfl ?_)
  (refine r_pure (a_move (r := .tup _)) rfl rfl ?_)
  (refine r_pure (a_extract rfl) rfl rfl ?_)
  (refine r_pure (a_extract rfl) rfl rfl ?_)
  (refine r_pure (a_assign (r := .row _)) rfl rfl ?_)
  (refine r_pure (a_assign (r := .p _)) rfl rfl ?_)
  refine arun_nil ⟨by kernel_rfl, ?_⟩
  refine awp_reO (reo_fzR (cs := bs D) 29 rfl) ?_
  refine awp_seq ?_
  refine awp_text (by kernel_rfl) ?_
  (first | refine r_pure (a_move (r := .row _)) rfl rfl ?_ | refine r_pure (a_move (r := .p _)) rfl rfl ?_)
  (first | refine r_run (a_sliceR (L := none) (H := (some (_, _))) Try.underlying22 sz5 rfl ⟨by omega, rfl⟩ (by omega) (by omega) rfl rfl) rfl rfl ⟨rfl, trivial⟩ ?_ | refine r_pure (a_sliceS (L := none) (H := (some (_, _))) Try.underlying22 sz5 rfl ⟨by omega, rfl⟩ (by omega) (by omega) rfl rfl) rfl rfl ?_)
  (first | refine r_pure (a_assign (r := .psl _ _ _ _)) rfl rfl ?_ | refine r_pure (a_assign (r := .p _)) rfl rfl ?_)
  refine arun_nil ?_
  refine awp_ret ?_
  refine ⟨(by first | exact .inl rfl | exact .inr rfl), _, (fun o => o), (.tmp _ _ _ _ rfl .nil), ?_, rfl, ?_, rfl⟩
  · exact rfl
  · exact trivial

/-- a handshake under way -/
structure HS where
  lv : Bool
  mine : Int
  nc : ByteArray
  b : Int
  s : Int
def HS.cells (x : HS) : List AV := [.p (.v (.bool x.lv)), .p (.v (.int .i64 x.mine)), .p (.v (.string x.nc)), .p (.v (.int .i64 x.b)), .p (.v (.int .i64 x.s))]
def HS.pv (x : HS) : List PV := [.v (.bool x.lv), .v (.int .i64 x.mine), .v (.string x.nc), .v (.int .i64 x.b), .v (.int .i64 x.s)]
noncomputable def finP (a b sh : ByteArray) (x : HS) (m : MS) (now : Int) : KY × Int :=
  if wE m ≠ 0 then (KY0, wE m) else if m.t ≠ 2 then (KY0, 2) else if x.lv = false ∨ m.r ≠ x.mine then (KY0, 13)
  else if secE a b sh ≠ 0 then (KY0, secE a b sh) else if x.nc.size ≠ 16 then (KY0, 1)
  else if ansT (secS a b sh) x.nc m.r m.s (m.xs.take 8) ≠ m.xs.drop 8 then (KY0, 9)
  else (if mkE (secS a b sh) x.nc (hexS (m.xs.take 8)) true x.mine m.s now = 0 then mkKY (secS a b sh) x.nc (hexS (m.xs.take 8)) true x.mine m.s now else KY0, mkE (secS a b sh) x.nc (hexS (m.xs.take 8)) true x.mine m.s now)
theorem mkR_eq (s u a : ByteArray) (f : Bool) (m t n : Int) : mkR s u a f m t n = .tup [.agg (if mkE s u a f m t n = 0 then mkKY s u a f m t n else KY0).cells, .p (.v (.int .i64 (mkE s u a f m t n)))] := by
  unfold mkR
  split <;> rfl
theorem wE_n2 {m : MS} (h : wE m = 0) (ht : m.t = 2) : m.n = 24 := by
  unfold wE at h
  rw [ht] at h
  by_cases h1 : (ofS 2).ok = false
  · rw [if_pos h1] at h; omega
  rw [if_neg h1] at h
  by_cases h2 : formB (ofS 2) m = true
  · rw [if_pos h2] at h; omega
  rw [if_neg h2] at h
  by_cases h3 : rngB m = true
  · rw [if_pos h3] at h; omega
  rw [if_neg h3] at h
  by_cases h4 : sizB (ofS 2) m = true
  · rw [if_pos h4] at h; omega
  have e1 : (ofS 2).lo = 24 := rfl
  have e2 : (ofS 2).hi = 24 := rfl
  unfold sizB at h4
  rw [e1, e2] at h4
  simp at h4
  omega

theorem nums_ne {xs ys : List Int} (hx : isB xs) (hy : isB ys) (h : xs ≠ ys) : strOfNums xs ≠ strOfNums ys := fun e => h (by rw [← sb_nums hx, ← sb_nums hy, e])
end Go.Proofs.Ytmdkfhmmhiofbaa
