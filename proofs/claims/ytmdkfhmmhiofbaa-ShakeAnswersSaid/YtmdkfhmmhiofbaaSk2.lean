/- shake.Hello, ref.HelloOf, over data. -/
import Derived.Test.YtmdkfhmmhiofbaaSk1
import Derived.Test.YtmdkfhmmhiofbaaFw
import Derived.Test.YtmdkfhmmhiofbaaWi4
import Derived.Test.YtmdkfhmmhiofbaaWi6
--%T
namespace Go.Proofs.Ytmdkfhmmhiofbaa
open Go.RowKit Go.Sort
set_option linter.unusedVariables false
set_option linter.unusedSimpArgs false
set_option maxRecDepth 100000

def HELLO : ByteArray := ⟨#[104, 101, 108, 108, 111]⟩
def helIn (a nc : ByteArray) (mine : Int) : List Int := beI mine ++ hexVals nc 8 ++ markD a
def helT (a b sh nc : ByteArray) (mine : Int) : List Int := (macD (secS a b sh) (sb HELLO ++ helIn a nc mine)).take 16
def helB (a b sh nc : ByteArray) (mine : Int) : List Int := hexVals nc 8 ++ markD a ++ helT a b sh nc mine
def helM (a b sh nc : ByteArray) (mine : Int) : MS := ⟨1, mine, 0, 0, 32, helB a b sh nc mine⟩
def helE (a b sh nc : ByteArray) (mine : Int) : Int :=
  if secE a b sh ≠ 0 then secE a b sh else if noE nc ≠ 0 then noE nc else wE (helM a b sh nc mine)
def mRes (e : Int) (m : MS) : AV := if e = 0 then .tup [.agg m.cells, .p (.v (.int .i64 0))] else .tup [.agg MS0, .p (.v (.int .i64 e))]
theorem mRes_bad {e e' : Int} (h : e = e') (he : e' ≠ 0) (m : MS) : mRes e m = .tup [.agg MS0, .p (.v (.int .i64 e'))] := by subst h; exact if_neg he
theorem mRes_good {e : Int} (h : e = 0) (m : MS) : mRes e m = .tup [.agg m.cells, .p (.v (.int .i64 0))] := by subst h; rfl
theorem helT_len (a b sh nc : ByteArray) (mine : Int) : (helT a b sh nc mine).length = 16 := by rw [helT, List.length_take, macD_len]; rfl
theorem helB_len (a b sh nc : ByteArray) (mine : Int) : (helB a b sh nc mine).length = 32 := by
  rw [helB, List.length_append, List.length_append, hexVals_len, markD_len, helT_len]
theorem helT_B (a b sh nc : ByteArray) (mine : Int) : isB (helT a b sh nc mine) := fun x hx => macD_B _ _ x (List.mem_of_mem_take hx)
theorem secE_key {a b sh : ByteArray} (h : secE a b sh = 0) : keyE a = 0 := by
  unfold secE at h
  split at h
  · exact absurd h (by assumption)
  · simp_all
theorem noE_good {nc : ByteArray} (h : noE nc = 0) : nc.size = 16 ∧ hexE nc = 0 := by
  unfold noE at h
  split at h
  · exact ⟨by assumption, h⟩
  · omega
theorem noE_B {nc : ByteArray} (h : noE nc = 0) : isB (hexVals nc 8) := by
  obtain ⟨h1, h2⟩ := noE_good h
  exact hexVals_B (hexE_good h2) (by omega)
set_option maxHeartbeats 4000000 in
theorem hello_s (a b sh nc : ByteArray) (mine : Int) (hsh : sh.size ≤ 140737488351232) :
    Fn Try.prog 10 [.p (.v (.string a)), .p (.v (.string b)), .p (.v (.string sh)), .p (.v (.int .i64 mine)), .p (.v (.string nc))] (mRes (helE a b sh nc mine) (helM a b sh nc mine)) [] := by
  have hS := secret_s a b sh hsh
  have hN := shNonce_s nc
  have hE : helE a b sh nc mine = if secE a b sh ≠ 0 then secE a b sh else if noE nc ≠ 0 then noE nc else wE (helM a b sh nc mine) := rfl
  by_cases h1 : secE a b sh ≠ 0
  · rw [if_pos h1] at hE
    rw [mRes_bad hE h1]
    rw [sRes_bad rfl h1] at hS
    generalize secE a b sh = e at *
    refine fn_intro Try.func10 rfl (Nat.le_of_ble_eq_true rfl) fun w0 A => ?_
    refine awp_seq ?_
    refine awp_text (by kernel_rfl) ?_
    (refine r_run (a_alloc 10 zr24 rfl) rfl rfl ⟨rfl, trivial⟩ ?_)
    (refine r_pure (a_assign (r := .p _)) rfl rfl ?_)
    refine arun_nil ?_
    refine awp_seq ?_
    refine awp_text (by kernel_rfl) ?_
    (refine r_pure (a_move (r := .p _)) rfl rfl ?_)
    (refine r_pure (a_move (r := .p _)) rfl rfl ?_)
    (refine r_pure (a_move (r := .p _)) rfl rfl ?_)
    (refine r_callV (fun n => 25 + 1000 * n) (hS) rfl rfl Try.func15 rfl rfl (by first | rfl | simp [AV.noSl, AV.noSlL, AObj.noSl, PV.isV, bs_noSl]) (by first | rfl | simp [AV.noSl, AV.noSlL, AObj.noSl, PV.isV, bs_noSl]) rfl rfl rfl (by first | exact trivial | exact ⟨rfl, trivial⟩ | exact ⟨rfl, rfl, trivial⟩) rfl rfl rfl ?_)
    (refine r_pure (a_move (r := .tup _)) rfl rfl ?_)
    (refine r_pure (a_extract rfl) rfl rfl ?_)
    (refine r_pure (a_extract rfl) rfl rfl ?_)
    (refine r_pure (a_assign (r := .p _)) rfl rfl ?_)
    (refine r_pure (a_assign (r := .p _)) rfl rfl ?_)
    refine arun_nil ?_
    refine awp_seq (awp_seq ?_)
    refine awp_text (by kernel_rfl) ?_
    (refine r_pure (a_move (r := .p _)) rfl rfl ?_)
    (refine r_pure a_neq rfl rfl ?_)
    refine arun_nil ?_
    refine thn_n ?_
    refine awp_cond _ rfl (fun h => ?_) (fun h => ?_)
    · refine awp_seq ?_
      refine awp_text (by kernel_rfl) ?_
      (refine r_pure (b_build pl24 zr24 rfl rfl) rfl rfl ?_)
      (refine r_pure (a_move (r := .p _)) rfl rfl ?_)
      (refine r_run (a_storeAll (Y := .agg _) sz24 rfl (by first | exact Nat.eq_of_beq_eq_true rfl | (simp only [AV.cells, List.length_map]; first | assumption | omega)) (Nat.eq_of_beq_eq_true rfl)) rfl rfl ⟨rfl, trivial⟩ ?_)
      (refine r_pure (a_assign (r := .p _)) rfl rfl ?_)
      refine arun_nil ?_
      refine awp_ret (thn_r ?_)
      refine ⟨(by first | exact .inl rfl | exact .inr rfl), _, (fun o => o), (.cellN _ _ _ _ _ _ _ _ _ rfl rfl Try.underlying24 rfl sz24 (by first | assumption | kernel_rfl) (.tmp _ _ _ _ rfl .nil)), ?_, rfl, ?_, rfl⟩
      · exact rfl
      · exact trivial
    · exact absurd (by simpa using h) h1
  rw [if_neg h1] at hE
  replace h1 : secE a b sh = 0 := Decidable.not_not.1 h1
  rw [sRes_good h1] at hS
  by_cases h2 : noE nc ≠ 0
  · rw [if_pos h2] at hE
    rw [mRes_bad hE h2]
    rw [pRes_bad rfl h2] at hN
    generalize noE nc = e at *
    refine fn_intro Try.func10 rfl (Nat.le_of_ble_eq_true rfl) fun w0 A => ?_
    refine awp_seq ?_
    refine awp_text (by kernel_rfl) ?_
    (refine r_run (a_alloc 10 zr24 rfl) rfl rfl ⟨rfl, trivial⟩ ?_)
    (refine r_pure (a_assign (r := .p _)) rfl rfl ?_)
    refine arun_nil ?_
    refine awp_seq ?_
    refine awp_text (by kernel_rfl) ?_
    (refine r_pure (a_move (r := .p _)) rfl rfl ?_)
    (refine r_pure (a_move (r := .p _)) rfl rfl ?_)
    (refine r_pure (a_move (r := .p _)) rfl rfl ?_)
    (refine r_callV (fun n => 25 + 1000 * n) (hS) rfl rfl Try.func15 rfl rfl (by first | rfl | simp [AV.noSl, AV.noSlL, AObj.noSl, PV.isV, bs_noSl]) (by first | rfl | simp [AV.noSl, AV.noSlL, AObj.noSl, PV.isV, bs_noSl]) rfl rfl rfl (by first | exact trivial | exact ⟨rfl, trivial⟩ | exact ⟨rfl, rfl, trivial⟩) rfl rfl rfl ?_)
    (refine r_pure (a_move (r := .tup _)) rfl rfl ?_)
    (refine r_pure (a_extract rfl) rfl rfl ?_)
    (refine r_pure (a_extract rfl) rfl rfl ?_)
    (refine r_pure (a_assign (r := .p _)) rfl rfl ?_)
    (refine r_pure (a_assign (r := .p _)) rfl rfl ?_)
    refine arun_nil ?_
    refine awp_seq (awp_seq ?_)
    refine awp_text (by kernel_rfl) ?_
    (refine r_pure (a_move (r := .p _)) rfl rfl ?_)
    (refine r_pure a_neqT rfl rfl ?_)
    refine arun_nil ?_
    refine thn_n ?_
    refine awp_cond _ rfl (fun h => ?_) (fun h => ?_)
    · cases h
    refine awp_skip (awp_seq ?_)
    refine awp_text (by kernel_rfl) ?_
    (refine r_pure (a_move (r := .p _)) rfl rfl ?_)
    (refine r_callS (fun n => 34 + 1000 * n) (hN) rfl rfl Try.func14 rfl rfl (by first | rfl | simp [AV.okInL, AV.okIn, okInL_map]) rfl rfl rfl (by first | exact trivial | exact ⟨rfl, trivial⟩ | exact ⟨rfl, rfl, trivial⟩) rfl rfl rfl ?_)
    (refine r_pure (a_move (r := .tup _)) rfl rfl ?_)
    (refine r_pure (a_extract rfl) rfl rfl ?_)
    (refine r_pure (a_extract rfl) rfl rfl ?_)
    (refine r_pure (a_assign (r := .p _)) rfl rfl ?_)
    (refine r_pure (a_assign (r := .p _)) rfl rfl ?_)
    refine arun_nil ?_
    refine awp_seq (awp_seq ?_)
    refine awp_text (by kernel_rfl) ?_
    (refine r_pure (a_move (r := .p _)) rfl rfl ?_)
    (refine r_pure a_neq rfl rfl ?_)
    refine arun_nil ?_
    refine thn_n ?_
    refine awp_cond _ rfl (fun h => ?_) (fun h => ?_)
    · refine awp_seq ?_
      refine awp_text (by kernel_rfl) ?_
      (refine r_pure (b_build pl24 zr24 rfl rfl) rfl rfl ?_)
      (refine r_pure (a_move (r := .p _)) rfl rfl ?_)
      (refine r_run (a_storeAll (Y := .agg _) sz24 rfl (by first | exact Nat.eq_of_beq_eq_true rfl | (simp only [AV.cells, List.length_map]; first | assumption | omega)) (Nat.eq_of_beq_eq_true rfl)) rfl rfl ⟨rfl, trivial⟩ ?_)
      (refine r_pure (a_assign (r := .p _)) rfl rfl ?_)
      refine arun_nil ?_
      refine awp_ret (thn_r ?_)
      refine ⟨(by first | exact .inl rfl | exact .inr rfl), _, (fun o => o), (.cellN _ _ _ _ _ _ _ _ _ rfl rfl Try.underlying24 rfl sz24 (by first | assumption | kernel_rfl) (.tmp _ _ _ _ rfl .nil)), ?_, rfl, ?_, rfl⟩
      · exact rfl
      · exact trivial
    · exact absurd (by simpa using h) h2
  rw [if_neg h2] at hE
  replace h2 : noE nc = 0 := Decidable.not_not.1 h2
  rw [pRes_good h2] at hN
  have hMk := mark_s a
  obtain ⟨e1, e2⟩ := bRes_good (secE_key h1) 8 (markD a)
  rw [e1, e2] at hMk
  clear e1 e2
  have hNu := shNum_s mine
  have hT := stag_s (secS a b sh) HELLO (beI mine) (hexVals nc 8) (markD a) (keyE_secS a b sh) (beI_B mine) (noE_B h2) (markD_B a) (by rw [hexVals_len, markD_len]; show (5 : Nat) + (4 + 8 + 8) ≤ 900; decide)
  rw [hexVals_len, markD_len] at hT
  change Fn Try.prog 17 [.p (.v (.string (secS a b sh))), .p (.v (.string ⟨#[104, 101, 108, 108, 111]⟩)), .p (.sl 3 1 [.sl 4 1 (bs (beI mine)), .sl 8 1 (bs (hexVals nc 8)), .sl 8 1 (bs (markD a))])] (.tup [.p (.sl 16 1 (bs (helT a b sh nc mine))), .p (.v (.int .i64 0))]) [] at hT
  have hJ := bjoin_s [hexVals nc 8, markD a, helT a b sh nc mine] (by intro x hx; simp only [List.mem_cons, List.not_mem_nil, or_false] at hx; rcases hx with rfl | rfl | rfl; exact noE_B h2; exact markD_B a; exact helT_B a b sh nc mine) (by simp) (by simp) (by rw [join3]; simp only [List.length_append]; rw [hexVals_len, markD_len, helT_len]; decide)
  rw [join3] at hJ
  simp only [bParts, List.map_cons, List.map_nil] at hJ
  rw [hexVals_len, markD_len, helT_len] at hJ
  change Fn Try.prog 29 [.p (.sl 3 1 [.sl 8 1 (bs (hexVals nc 8)), .sl 8 1 (bs (markD a)), .sl 16 1 (bs (helT a b sh nc mine))]), .p (.v (.slice none 0 0))] (.p (.sl (helB a b sh nc mine).length 1 (bs (helB a b sh nc mine)))) [] at hJ
  rw [helB_len] at hJ
  have hW := wcheck_s (helM a b sh nc mine) (by show (32 : Nat) ≤ _; decide)
  unfold mRes
  rw [hE]
  have hc : (helM a b sh nc mine).cells = [.p (.v (.int .i64 1)), .p (.v (.int .i64 mine)), .p (.v (.int .i64 0)), .p (.v (.int .i64 0)), .p (.sl 32 1 (bs (helB a b sh nc mine)))] := rfl
  rw [hc] at hW ⊢
  unfold MS0
  change Fn Try.prog 14 _ (.tup [.p (.sl 8 1 (bs (hexVals nc 8))), .p (.v (.int .i64 0))]) [] at hN
  clear hE hc h1 h2
  generalize wE (helM a b sh nc mine) = e at *
  generalize helB a b sh nc mine = BB at *
  generalize helT a b sh nc mine = BT at *
  generalize markD a = BM at *
  generalize hexVals nc 8 = BN at *
  generalize beI mine = BI at *
  generalize secS a b sh = K at *
  refine fn_intro Try.func10 rfl (Nat.le_of_ble_eq_true rfl) fun w0 A => ?_
  refine awp_seq ?_
  refine awp_text (by kernel_rfl) ?_
  (refine r_run (a_alloc 10 zr24 rfl) rfl rfl ⟨rfl, trivial⟩ ?_)
  (refine r_pure (a_assign (r := .p _)) rfl rfl ?_)
  refine arun_nil ?_
  refine awp_seq ?_
  refine awp_text (by kernel_rfl) ?_
  (refine r_pure (a_move (r := .p _)) rfl rfl ?_)
  (refine r_pure (a_move (r := .p _)) rfl rfl ?_)
  (refine r_pure (a_move (r := .p _)) rfl rfl ?_)
  (refine r_callV (fun n => 25 + 1000 * n) (hS) rfl rfl Try.func15 rfl rfl (by first | rfl | simp [AV.noSl, AV.noSlL, AObj.noSl, PV.isV, bs_noSl]) (by first | rfl | simp [AV.noSl, AV.noSlL, AObj.noSl, PV.isV, bs_noSl]) rfl rfl rfl (by first | exact trivial | exact ⟨rfl, trivial⟩ | exact ⟨rfl, rfl, trivial⟩) rfl rfl rfl ?_)
  (refine r_pure (a_move (r := .tup _)) rfl rfl ?_)
  (refine r_pure (a_extract rfl) rfl rfl ?_)
  (refine r_pure (a_extract rfl) rfl rfl ?_)
  (refine r_pure (a_assign (r := .p _)) rfl rfl ?_)
  (refine r_pure (a_assign (r := .p _)) rfl rfl ?_)
  refine arun_nil ?_
  refine awp_seq (awp_seq ?_)
  refine awp_text (by kernel_rfl) ?_
  (refine r_pure (a_move (r := .p _)) rfl rfl ?_)
  (refine r_pure a_neqT rfl rfl ?_)
  refine arun_nil ?_
  refine thn_n ?_
  refine awp_cond _ rfl (fun h => ?_) (fun h => ?_)
  · cases h
  refine awp_skip (awp_seq ?_)
  refine awp_text (by kernel_rfl) ?_
  (refine r_pure (a_move (r := .p _)) rfl rfl ?_)
  (refine r_callS (fun n => 34 + 1000 * n) (hN) rfl rfl Try.func14 rfl rfl (by first | rfl | simp [AV.okInL, AV.okIn, okInL_map]) rfl rfl rfl (by first | exact trivial | exact ⟨rfl, trivial⟩ | exact ⟨rfl, rfl, trivial⟩) rfl rfl rfl ?_)
  (refine r_pure (a_move (r := .tup _)) rfl rfl ?_)
  (refine r_pure (a_extract rfl) rfl rfl ?_)
  (refine r_pure (a_extract rfl) rfl rfl ?_)
  (refine r_pure (a_assign (r := .p _)) rfl rfl ?_)
  (refine r_pure (a_assign (r := .p _)) rfl rfl ?_)
  refine arun_nil ?_
  refine awp_seq (awp_seq ?_)
  refine awp_text (by kernel_rfl) ?_
  (refine r_pure (a_move (r := .p _)) rfl rfl ?_)
  (refine r_pure a_neqT rfl rfl ?_)
  refine arun_nil ?_
  refine thn_n ?_
  refine awp_cond _ rfl (fun h => ?_) (fun h => ?_)
  · cases h
  refine awp_skip (awp_seq ?_)
  refine awp_text (by kernel_rfl) ?_
  (refine r_pure (a_move (r := .p _)) rfl rfl ?_)
  (refine r_callV (fun n => 43 + 1000 * n) (hMk) rfl rfl Try.func28 rfl rfl (by first | rfl | simp [AV.noSl, AV.noSlL, AObj.noSl, PV.isV, bs_noSl]) (by first | rfl | simp [AV.noSl, AV.noSlL, AObj.noSl, PV.isV, bs_noSl]) rfl rfl rfl (by first | exact trivial | exact ⟨rfl, trivial⟩ | exact ⟨rfl, rfl, trivial⟩) rfl rfl rfl ?_)
  (refine r_pure (a_move (r := .tup _)) rfl rfl ?_)
  (refine r_pure (a_extract rfl) rfl rfl ?_)
  (refine r_pure (a_extract rfl) rfl rfl ?_)
  (refine r_pure (a_assign (r := .row _)) rfl rfl ?_)
  (refine r_pure (a_assign (r := .p _)) rfl rfl ?_)
  refine arun_nil ?_
  refine awp_reO (reo_fzR (cs := bs BM) 43 rfl) ?_
  refine awp_seq ?_
  refine awp_text (by kernel_rfl) ?_
  (refine r_pure (a_move (r := .p _)) rfl rfl ?_)
  (refine r_pure (a_move (r := .p _)) rfl rfl ?_)
  (refine r_callS (fun n => 49 + 1000 * n) (hNu) rfl rfl Try.func18 rfl rfl (by first | rfl | simp [AV.okInL, AV.okIn, okInL_map]) rfl rfl rfl (by first | exact trivial | exact ⟨rfl, trivial⟩ | exact ⟨rfl, rfl, trivial⟩) rfl rfl rfl ?_)
  (refine r_pure (a_move (r := .p _)) rfl rfl ?_)
  (refine r_pure (a_move (r := .p _)) rfl rfl ?_)
  (refine r_run (xs := [.p (.sl 4 1 (bs BI)), .p (.sl 8 1 (bs BN)), .p (.sl 8 1 (bs BM))]) (a_buildSlice (es := [.p (.sl 4 1 (bs BI)), .p (.sl 8 1 (bs BN)), .p (.sl 8 1 (bs BM))]) (cs := [.sl 4 1 (bs BI), .sl 8 1 (bs BN), .sl 8 1 (bs BM)]) 52 Try.underlying56 sz22 zc22 (Nat.le_of_ble_eq_true rfl) (Nat.le_of_ble_eq_true rfl) rfl (by kernel_rfl) (by kernel_rfl) (by kernel_rfl) (Nat.le_of_ble_eq_true rfl)) (by first | rfl | kernel_rfl) rfl ⟨rfl, trivial⟩ ?_)
  (refine r_callW (fun n => 53 + 1000 * n) (hT) rfl rfl Try.func17 rfl rfl rfl rfl rfl rfl rfl (by first | exact trivial | exact ⟨rfl, trivial⟩ | exact ⟨rfl, rfl, trivial⟩) rfl rfl rfl ?_)
  (refine r_pure (a_move (r := .tup _)) rfl rfl ?_)
  (refine r_pure (a_extract rfl) rfl rfl ?_)
  (refine r_pure (a_extract rfl) rfl rfl ?_)
  (refine r_pure (a_assign (r := .p _)) rfl rfl ?_)
  (refine r_pure (a_assign (r := .p _)) rfl rfl ?_)
  refine arun_nil ?_
  refine awp_seq ?_
  refine awp_text (by kernel_rfl) ?_
  (refine r_pure (a_move (r := .p _)) rfl rfl ?_)
  (refine r_pure (a_move (r := .p _)) rfl rfl ?_)
  (refine r_pure (a_move (r := .p _)) rfl rfl ?_)
  (refine r_pure (a_move (r := .p _)) rfl rfl ?_)
  (refine r_run (xs := [.p (.sl 8 1 (bs BN)), .p (.sl 8 1 (bs BM)), .p (.sl 16 1 (bs BT))]) (a_buildSlice (es := [.p (.sl 8 1 (bs BN)), .p (.sl 8 1 (bs BM)), .p (.sl 16 1 (bs BT))]) (cs := [.sl 8 1 (bs BN), .sl 8 1 (bs BM), .sl 16 1 (bs BT)]) 60 Try.underlying56 sz22 zc22 (Nat.le_of_ble_eq_true rfl) (Nat.le_of_ble_eq_true rfl) rfl (by kernel_rfl) (by kernel_rfl) (by kernel_rfl) (Nat.le_of_ble_eq_true rfl)) (by first | rfl | kernel_rfl) rfl ⟨rfl, trivial⟩ ?_)
  (refine r_callW (fun n => 61 + 1000 * n) (hJ) rfl rfl Try.func29 rfl rfl rfl rfl rfl rfl rfl (by first | exact trivial | exact ⟨rfl, trivial⟩ | exact ⟨rfl, rfl, trivial⟩) rfl rfl rfl ?_)
  (refine r_pure (b_build pl24 zr24 rfl rfl) rfl rfl ?_)
  (refine r_run (a_alloc 19 zr24 rfl) rfl rfl ⟨rfl, trivial⟩ ?_)
  (refine r_run (a_storeAll (Y := .agg _) sz24 rfl (by first | exact Nat.eq_of_beq_eq_true rfl | (simp only [AV.cells, List.length_map]; first | assumption | omega)) (Nat.eq_of_beq_eq_true rfl)) rfl rfl ⟨rfl, trivial⟩ ?_)
  refine arun_nil ?_
  refine awp_seq (awp_seq ?_)
  refine awp_text (by kernel_rfl) ?_
  (refine r_run (a_loadN Try.underlying24 rfl sz24 (by first | exact Nat.le_of_ble_eq_true rfl | omega | (simp only [AV.cells, List.length_map]; omega)) (by first | exact take_all (by first | assumption | exact Nat.eq_of_beq_eq_true rfl | (simp only [AV.cells, List.length_map]; first | assumption | omega)) | (simp only [List.take_succ_cons, List.take_zero, List.drop_succ_cons, List.drop_zero]; rfl) | rfl)) rfl rfl ⟨rfl, trivial⟩ ?_)
  (refine r_callV (fun n => 64 + 1000 * n) (hW) rfl rfl Try.func9 rfl rfl (by first | rfl | simp [AV.noSl, AV.noSlL, AObj.noSl, PV.isV, bs_noSl]) (by first | rfl | simp [AV.noSl, AV.noSlL, AObj.noSl, PV.isV, bs_noSl]) rfl rfl rfl (by first | exact trivial | exact ⟨rfl, trivial⟩ | exact ⟨rfl, rfl, trivial⟩) rfl rfl rfl ?_)
  (refine r_pure (a_assign (r := .p _)) rfl rfl ?_)
  refine arun_nil ?_
  refine awp_seq ?_
  refine awp_text (by kernel_rfl) ?_
  (refine r_pure (a_move (r := .p _)) rfl rfl ?_)
  (refine r_pure a_neq rfl rfl ?_)
  refine arun_nil ?_
  refine thn_n ?_
  refine awp_cond _ rfl (fun h => ?_) (fun h => ?_)
  · have he : e ≠ 0 := by simpa using h
    rw [if_neg he]
    refine awp_seq ?_
    refine awp_text (by kernel_rfl) ?_
    (refine r_pure (b_build pl24 zr24 rfl rfl) rfl rfl ?_)
    (refine r_pure (a_move (r := .p _)) rfl rfl ?_)
    (refine r_run (a_storeAll (Y := .agg _) sz24 rfl (by first | exact Nat.eq_of_beq_eq_true rfl | (simp only [AV.cells, List.length_map]; first | assumption | omega)) (Nat.eq_of_beq_eq_true rfl)) rfl rfl ⟨rfl, trivial⟩ ?_)
    (refine r_pure (a_assign (r := .p _)) rfl rfl ?_)
    refine arun_nil ?_
    refine awp_ret (thn_r ?_)
    refine ⟨(by first | exact .inl rfl | exact .inr rfl), _, (fun o => o), (.cellN _ _ _ _ _ _ _ _ _ rfl rfl Try.underlying24 rfl sz24 (by first | assumption | kernel_rfl) (.tmp _ _ _ _ rfl .nil)), ?_, rfl, ?_, rfl⟩
    · exact rfl
    · exact trivial
  · have he : e = 0 := by simpa using h
    rw [if_pos he]
    refine awp_skip (awp_seq ?_)
    refine awp_text (by kernel_rfl) ?_
    (refine r_run (a_loadN Try.underlying24 rfl sz24 (by first | exact Nat.le_of_ble_eq_true rfl | omega | (simp only [AV.cells, List.length_map]; omega)) (by first | exact take_all (by first | assumption | exact Nat.eq_of_beq_eq_true rfl | (simp only [AV.cells, List.length_map]; first | assumption | omega)) | (simp only [List.take_succ_cons, List.take_zero, List.drop_succ_cons, List.drop_zero]; rfl) | rfl)) rfl rfl ⟨rfl, trivial⟩ ?_)
    (refine r_run (a_storeAll (Y := .agg _) sz24 rfl (by first | exact Nat.eq_of_beq_eq_true rfl | (simp only [AV.cells, List.length_map]; first | assumption | omega)) (Nat.eq_of_beq_eq_true rfl)) rfl rfl ⟨rfl, trivial⟩ ?_)
    (refine r_pure (a_assign (r := .p _)) rfl rfl ?_)
    refine arun_nil ?_
    refine awp_ret ?_
    refine ⟨(by first | exact .inl rfl | exact .inr rfl), _, (fun o => o), (.cellN _ _ _ _ _ _ _ _ _ rfl rfl Try.underlying24 rfl sz24 (by first | assumption | kernel_rfl) (.tmp _ _ _ _ rfl .nil)), ?_, rfl, ?_, rfl⟩
    · exact rfl
    · exact trivial
/-! the reference -/
set_option maxHeartbeats 4000000 in
theorem refHello_s (a b sh nc : ByteArray) (mine : Int) (m0 : -9223372036854775808 ≤ mine) (m1 : mine ≤ 9223372036854775807) (hsh : sh.size ≤ 140737488351232) :
    Fn Try.prog 21 [.p (.v (.string a)), .p (.v (.string b)), .p (.v (.string sh)), .p (.v (.int .i64 mine)), .p (.v (.string nc))] (mRes (helE a b sh nc mine) (helM a b sh nc mine)) [] := by
  have hS := refSecret_s a b sh hsh
  have hH := refBytes_s nc
  have hE : helE a b sh nc mine = if secE a b sh ≠ 0 then secE a b sh else if noE nc ≠ 0 then noE nc else wE (helM a b sh nc mine) := rfl
  by_cases h1 : secE a b sh ≠ 0
  · rw [if_pos h1] at hE
    rw [mRes_bad hE h1]
    rw [sRes_bad rfl h1] at hS
    generalize secE a b sh = e at *
    refine fn_intro Try.func21 rfl (Nat.le_of_ble_eq_true rfl) fun w0 A => ?_
    refine awp_seq ?_
    refine awp_text (by kernel_rfl) ?_
    (refine r_run (a_alloc 10 zr24 rfl) rfl rfl ⟨rfl, trivial⟩ ?_)
    (refine r_pure (a_assign (r := .p _)) rfl rfl ?_)
    refine arun_nil ?_
    refine awp_seq ?_
    refine awp_text (by kernel_rfl) ?_
    (refine r_pure (a_move (r := .p _)) rfl rfl ?_)
    (refine r_pure (a_move (r := .p _)) rfl rfl ?_)
    (refine r_pure (a_move (r := .p _)) rfl rfl ?_)
    (refine r_callV (fun n => 25 + 1000 * n) (hS) rfl rfl Try.func23 rfl rfl (by first | rfl | simp [AV.noSl, AV.noSlL, AObj.noSl, PV.isV, bs_noSl]) (by first | rfl | simp [AV.noSl, AV.noSlL, AObj.noSl, PV.isV, bs_noSl]) rfl rfl rfl (by first | exact trivial | exact ⟨rfl, trivial⟩ | exact ⟨rfl, rfl, trivial⟩) rfl rfl rfl ?_)
    (refine r_pure (a_move (r := .tup _)) rfl rfl ?_)
    (refine r_pure (a_extract rfl) rfl rfl ?_)
    (refine r_pure (a_extract rfl) rfl rfl ?_)
    (refine r_pure (a_assign (r := .p _)) rfl rfl ?_)
    (refine r_pure (a_assign (r := .p _)) rfl rfl ?_)
    refine arun_nil ?_
    refine awp_seq (awp_seq ?_)
    refine awp_text (by kernel_rfl) ?_
    (refine r_pure (a_move (r := .p _)) rfl rfl ?_)
    (refine r_pure a_neq rfl rfl ?_)
    refine arun_nil ?_
    refine thn_n ?_
    refine awp_cond _ rfl (fun h => ?_) (fun h => ?_)
    · refine awp_seq ?_
      refine awp_text (by kernel_rfl) ?_
      (refine r_pure (b_build pl24 zr24 rfl rfl) rfl rfl ?_)
      (refine r_pure (a_move (r := .p _)) rfl rfl ?_)
      (refine r_run (a_storeAll (Y := .agg _) sz24 rfl (by first | exact Nat.eq_of_beq_eq_true rfl | (simp only [AV.cells, List.length_map]; first | assumption | omega)) (Nat.eq_of_beq_eq_true rfl)) rfl rfl ⟨rfl, trivial⟩ ?_)
      (refine r_pure (a_assign (r := .p _)) rfl rfl ?_)
      refine arun_nil ?_
      refine awp_ret (thn_r ?_)
      refine ⟨(by first | exact .inl rfl | exact .inr rfl), _, (fun o => o), (.cellN _ _ _ _ _ _ _ _ _ rfl rfl Try.underlying24 rfl sz24 (by first | assumption | kernel_rfl) (.tmp _ _ _ _ rfl .nil)), ?_, rfl, ?_, rfl⟩
      · exact rfl
      · exact trivial
    · exact absurd (by simpa using h) h1
  rw [if_neg h1] at hE
  replace h1 : secE a b sh = 0 := Decidable.not_not.1 h1
  rw [sRes_good h1] at hS
  by_cases hz : nc.size = 16
  rotate_left
  · have hN1 : noE nc = 1 := by unfold noE; rw [if_neg hz]
    rw [if_pos (by rw [hN1]; decide), hN1] at hE
    rw [mRes_bad hE (by decide)]
    refine fn_intro Try.func21 rfl (Nat.le_of_ble_eq_true rfl) fun w0 A => ?_
    refine awp_seq ?_
    refine awp_text (by kernel_rfl) ?_
    (refine r_run (a_alloc 10 zr24 rfl) rfl rfl ⟨rfl, trivial⟩ ?_)
    (refine r_pure (a_assign (r := .p _)) rfl rfl ?_)
    refine arun_nil ?_
    refine awp_seq ?_
    refine awp_text (by kernel_rfl) ?_
    (refine r_pure (a_move (r := .p _)) rfl rfl ?_)
    (refine r_pure (a_move (r := .p _)) rfl rfl ?_)
    (refine r_pure (a_move (r := .p _)) rfl rfl ?_)
    (refine r_callV (fun n => 25 + 1000 * n) (hS) rfl rfl Try.func23 rfl rfl (by first | rfl | simp [AV.noSl, AV.noSlL, AObj.noSl, PV.isV, bs_noSl]) (by first | rfl | simp [AV.noSl, AV.noSlL, AObj.noSl, PV.isV, bs_noSl]) rfl rfl rfl (by first | exact trivial | exact ⟨rfl, trivial⟩ | exact ⟨rfl, rfl, trivial⟩) rfl rfl rfl ?_)
    (refine r_pure (a_move (r := .tup _)) rfl rfl ?_)
    (refine r_pure (a_extract rfl) rfl rfl ?_)
    (refine r_pure (a_extract rfl) rfl rfl ?_)
    (refine r_pure (a_assign (r := .p _)) rfl rfl ?_)
    (refine r_pure (a_assign (r := .p _)) rfl rfl ?_)
    refine arun_nil ?_
    refine awp_seq (awp_seq ?_)
    refine awp_text (by kernel_rfl) ?_
    (refine r_pure (a_move (r := .p _)) rfl rfl ?_)
    (refine r_pure a_neqT rfl rfl ?_)
    refine arun_nil ?_
    refine thn_n ?_
    refine awp_cond _ rfl (fun h => ?_) (fun h => ?_)
    · cases h
    refine awp_skip (awp_seq (awp_seq ?_))
    refine awp_text (by kernel_rfl) ?_
    (refine r_pure (a_move (r := .p _)) rfl rfl ?_)
    (refine r_pure (a_lenStr Try.underlying9) rfl rfl ?_)
    (refine r_pure a_neq rfl rfl ?_)
    refine arun_nil ?_
    refine thn_n ?_
    refine awp_cond _ rfl (fun h => ?_) (fun h => ?_)
    · refine awp_seq ?_
      refine awp_text (by kernel_rfl) ?_
      (refine r_pure (b_build pl24 zr24 rfl rfl) rfl rfl ?_)
      (refine r_run (a_storeAll (Y := .agg _) sz24 rfl (by first | exact Nat.eq_of_beq_eq_true rfl | (simp only [AV.cells, List.length_map]; first | assumption | omega)) (Nat.eq_of_beq_eq_true rfl)) rfl rfl ⟨rfl, trivial⟩ ?_)
      (refine r_pure (a_assign (r := .p _)) rfl rfl ?_)
      refine arun_nil ?_
      refine awp_ret (thn_r ?_)
      refine ⟨(by first | exact .inl rfl | exact .inr rfl), _, (fun o => o), (.cellN _ _ _ _ _ _ _ _ _ rfl rfl Try.underlying24 rfl sz24 (by first | assumption | kernel_rfl) (.tmp _ _ _ _ rfl .nil)), ?_, rfl, ?_, rfl⟩
      · exact rfl
      · exact trivial
    · exact absurd (by simp at h; omega) hz
  have hN1 : noE nc = hexE nc := by unfold noE; rw [if_pos hz]
  by_cases h2 : hexE nc ≠ 0
  · rw [hN1, if_pos h2] at hE
    rw [mRes_bad hE h2]
    obtain ⟨e1, e2⟩ := hexRes_bad rfl h2
    rw [e1, e2] at hH
    generalize hexE nc = e at *
    refine fn_intro Try.func21 rfl (Nat.le_of_ble_eq_true rfl) fun w0 A => ?_
    refine awp_seq ?_
    refine awp_text (by kernel_rfl) ?_
    (refine r_run (a_alloc 10 zr24 rfl) rfl rfl ⟨rfl, trivial⟩ ?_)
    (refine r_pure (a_assign (r := .p _)) rfl rfl ?_)
    refine arun_nil ?_
    refine awp_seq ?_
    refine awp_text (by kernel_rfl) ?_
    (refine r_pure (a_move (r := .p _)) rfl rfl ?_)
    (refine r_pure (a_move (r := .p _)) rfl rfl ?_)
    (refine r_pure (a_move (r := .p _)) rfl rfl ?_)
    (refine r_callV (fun n => 25 + 1000 * n) (hS) rfl rfl Try.func23 rfl rfl (by first | rfl | simp [AV.noSl, AV.noSlL, AObj.noSl, PV.isV, bs_noSl]) (by first | rfl | simp [AV.noSl, AV.noSlL, AObj.noSl, PV.isV, bs_noSl]) rfl rfl rfl (by first | exact trivial | exact ⟨rfl, trivial⟩ | exact ⟨rfl, rfl, trivial⟩) rfl rfl rfl ?_)
    (refine r_pure (a_move (r := .tup _)) rfl rfl ?_)
    (refine r_pure (a_extract rfl) rfl rfl ?_)
    (refine r_pure (a_extract rfl) rfl rfl ?_)
    (refine r_pure (a_assign (r := .p _)) rfl rfl ?_)
    (refine r_pure (a_assign (r := .p _)) rfl rfl ?_)
    refine arun_nil ?_
    refine awp_seq (awp_seq ?_)
    refine awp_text (by kernel_rfl) ?_
    (refine r_pure (a_move (r := .p _)) rfl rfl ?_)
    (refine r_pure a_neqT rfl rfl ?_)
    refine arun_nil ?_
    refine thn_n ?_
    refine awp_cond _ rfl (fun h => ?_) (fun h => ?_)
    · cases h
    refine awp_skip (awp_seq (awp_seq ?_))
    refine awp_text (by kernel_rfl) ?_
    (refine r_pure (a_move (r := .p _)) rfl rfl ?_)
    (refine r_pure (a_lenStr Try.underlying9) rfl rfl ?_)
    (refine r_pure a_neq rfl rfl ?_)
    refine arun_nil ?_
    refine thn_n ?_
    refine awp_cond _ rfl (fun h => ?_) (fun h => ?_)
    · simp [hz] at h
    refine awp_skip (awp_seq ?_)
    refine awp_text (by kernel_rfl) ?_
    (refine r_pure (a_move (r := .p _)) rfl rfl ?_)
    (refine r_callV (fun n => 38 + 1000 * n) (hH) rfl rfl Try.func22 rfl rfl (by first | rfl | simp [AV.noSl, AV.noSlL, AObj.noSl, PV.isV, bs_noSl]) (by first | rfl | simp [AV.noSl, AV.noSlL, AObj.noSl, PV.isV, bs_noSl]) rfl rfl rfl (by first | exact trivial | exact ⟨rfl, trivial⟩ | exact ⟨rfl, rfl, trivial⟩) rfl rfl rfl ?_)
    (refine r_pure (a_move (r := .tup _)) rfl rfl ?_)
    (refine r_pure (a_extract rfl) rfl rfl ?_)
    (refine r_pure (a_extract rfl) rfl rfl ?_)
    (refine r_pure (a_assign (r := .p _)) rfl rfl ?_)
    (refine r_pure (a_assign (r := .p _)) rfl rfl ?_)
    refine arun_nil ?_
    refine awp_seq (awp_seq ?_)
    refine awp_text (by kernel_rfl) ?_
    (refine r_pure (a_move (r := .p _)) rfl rfl ?_)
    (refine r_pure a_neq rfl rfl ?_)
    refine arun_nil ?_
    refine thn_n ?_
    refine awp_cond _ rfl (fun h => ?_) (fun h => ?_)
    · refine awp_seq ?_
      refine awp_text (by kernel_rfl) ?_
      (refine r_pure (b_build pl24 zr24 rfl rfl) rfl rfl ?_)
      (refine r_pure (a_move (r := .p _)) rfl rfl ?_)
      (refine r_run (a_storeAll (Y := .agg _) sz24 rfl (by first | exact Nat.eq_of_beq_eq_true rfl | (simp only [AV.cells, List.length_map]; first | assumption | omega)) (Nat.eq_of_beq_eq_true rfl)) rfl rfl ⟨rfl, trivial⟩ ?_)
      (refine r_pure (a_assign (r := .p _)) rfl rfl ?_)
      refine arun_nil ?_
      refine awp_ret (thn_r ?_)
      refine ⟨(by first | exact .inl rfl | exact .inr rfl), _, (fun o => o), (.cellN _ _ _ _ _ _ _ _ _ rfl rfl Try.underlying24 rfl sz24 (by first | assumption | kernel_rfl) (.tmp _ _ _ _ rfl .nil)), ?_, rfl, ?_, rfl⟩
      · exact rfl
      · exact trivial
    · exact absurd (by simpa using h) h2
  rw [hN1, if_neg h2] at hE
  replace h2 : hexE nc = 0 := Decidable.not_not.1 h2
  have hNB := noE_B (hN1.trans h2)
  obtain ⟨e1, e2⟩ := hexRes_good h2
  rw [e1, e2, hz] at hH
  clear e1 e2
  change Fn Try.prog 22 _ _ [(0, .row 5 1 8 (bs (hexVals nc 8)))] at hH
  have hMk := refMark_s a
  rw [pRes_good (secE_key h1)] at hMk
  have hNu := bigZ_s mine m0 m1
  obtain ⟨u1, hu1⟩ : ∃ u, HELLO ++ strOfNums (beI mine) = u := ⟨_, rfl⟩
  obtain ⟨u2, hu2⟩ : ∃ u, u1 ++ strOfNums (hexVals nc 8) = u := ⟨_, rfl⟩
  obtain ⟨u3, hu3⟩ : ∃ u, u2 ++ strOfNums (markD a) = u := ⟨_, rfl⟩
  have zI : (strOfNums (beI mine)).size = 4 := by rw [nums_size]; rfl
  have zN : (strOfNums (hexVals nc 8)).size = 8 := by rw [nums_size, hexVals_len]
  have zM : (strOfNums (markD a)).size = 8 := by rw [nums_size, markD_len]
  have zT : (strOfNums (helT a b sh nc mine)).size = 16 := by rw [nums_size, helT_len]
  have zH : HELLO.size = 5 := rfl
  have z1 : u1.size = 9 := by rw [← hu1, cat_size, zI, zH]
  have z2 : u2.size = 17 := by rw [← hu2, cat_size, z1, zN]
  have z3 : u3.size = 25 := by rw [← hu3, cat_size, z2, zM]
  have zs3 : sb u3 = sb HELLO ++ helIn a nc mine := by
    rw [← hu3, sb_cat, sb_nums (markD_B a), ← hu2, sb_cat, sb_nums hNB, ← hu1, sb_cat, sb_nums (beI_B mine)]
    simp [helIn]
  have hB : isB (sb HELLO ++ helIn a nc mine) := isB_app (sb_isB _) (isB_app (isB_app (beI_B mine) hNB) (markD_B a))
  have hlen : (sb HELLO ++ helIn a nc mine).length = 25 := by rw [← zs3, sb_length, z3]
  have hT := refTag_s (secS a b sh) 25 (sb HELLO ++ helIn a nc mine) hlen hB
  obtain ⟨e1, e2⟩ := bRes_good (show macE (secS a b sh) 25 = 0 by unfold macE; rw [if_pos (keyE_secS a b sh), if_neg (by decide)]) 32 (macD (secS a b sh) (sb HELLO ++ helIn a nc mine))
  rw [e1, e2] at hT
  clear e1 e2
  have hD := macD_len (secS a b sh) (sb HELLO ++ helIn a nc mine)
  have hTd : (macD (secS a b sh) (sb HELLO ++ helIn a nc mine)).take 16 = helT a b sh nc mine := rfl
  obtain ⟨u4, hu4⟩ : ∃ u, strOfNums (hexVals nc 8) ++ strOfNums (markD a) = u := ⟨_, rfl⟩
  obtain ⟨u5, hu5⟩ : ∃ u, u4 ++ strOfNums (helT a b sh nc mine) = u := ⟨_, rfl⟩
  have z4 : u4.size = 16 := by rw [← hu4, cat_size, zN, zM]
  have z5 : u5.size = 32 := by rw [← hu5, cat_size, z4, zT]
  have zs5 : sb u5 = helB a b sh nc mine := by
    rw [← hu5, sb_cat, sb_nums (helT_B a b sh nc mine), ← hu4, sb_cat, sb_nums (markD_B a), sb_nums hNB]; rfl
  have hW := refWFault_s (helM a b sh nc mine) (by show (32 : Nat) ≤ _; decide)
  unfold mRes
  rw [hE]
  have hc : (helM a b sh nc mine).cells = [.p (.v (.int .i64 1)), .p (.v (.int .i64 mine)), .p (.v (.int .i64 0)), .p (.v (.int .i64 0)), .p (.sl 32 1 (bs (helB a b sh nc mine)))] := rfl
  rw [hc] at hW ⊢
  unfold MS0
  change Fn Try.prog 39 _ (.tup [.p (.sl 8 1 (bs (markD a))), .p (.v (.int .i64 0))]) [] at hMk
  clear hE hc h1 h2 hN1 hB hlen hNB
  generalize wE (helM a b sh nc mine) = e at *
  generalize helB a b sh nc mine = BB at *
  generalize helT a b sh nc mine = BT at *
  generalize sb HELLO ++ helIn a nc mine = Z at *
  generalize markD a = BM at *
  generalize hexVals nc 8 = BN at *
  generalize beI mine = BI at *
  generalize secS a b sh = K at *
  generalize macD K Z = D at *
  have hbl : (bs D).length = 32 := by rw [bs_length]; exact hD
  have hsub : ((bs D).drop 0).take (16 * 1) = bs BT := by rw [← hTd]; simp [bs, List.map_take]
  refine fn_intro Try.func21 rfl (Nat.le_of_ble_eq_true rfl) fun w0 A => ?_
  refine awp_seq ?_
  refine awp_text (by kernel_rfl) ?_
  (refine r_run (a_alloc 10 zr24 rfl) rfl rfl ⟨rfl, trivial⟩ ?_)
  (refine r_pure (a_assign (r := .p _)) rfl rfl ?_)
  refine arun_nil ?_
  refine awp_seq ?_
  refine awp_text (by kernel_rfl) ?_
  (refine r_pure (a_move (r := .p _)) rfl rfl ?_)
  (refine r_pure (a_move (r := .p _)) rfl rfl ?_)
  (refine r_pure (a_move (r := .p _)) rfl rfl ?_)
  (refine r_callV (fun n => 25 + 1000 * n) (hS) rfl rfl Try.func23 rfl rfl (by first | rfl | simp [AV.noSl, AV.noSlL, AObj.noSl, PV.isV, bs_noSl]) (by first | rfl | simp [AV.noSl, AV.noSlL, AObj.noSl, PV.isV, bs_noSl]) rfl rfl rfl (by first | exact trivial | exact ⟨rfl, trivial⟩ | exact ⟨rfl, rfl, trivial⟩) rfl rfl rfl ?_)
  (refine r_pure (a_move (r := .tup _)) rfl rfl ?_)
  (refine r_pure (a_extract rfl) rfl rfl ?_)
  (refine r_pure (a_extract rfl) rfl rfl ?_)
  (refine r_pure (a_assign (r := .p _)) rfl rfl ?_)
  (refine r_pure (a_assign (r := .p _)) rfl rfl ?_)
  refine arun_nil ?_
  refine awp_seq (awp_seq ?_)
  refine awp_text (by kernel_rfl) ?_
  (refine r_pure (a_move (r := .p _)) rfl rfl ?_)
  (refine r_pure a_neqT rfl rfl ?_)
  refine arun_nil ?_
  refine thn_n ?_
  refine awp_cond _ rfl (fun h => ?_) (fun h => ?_)
  · cases h
  refine awp_skip (awp_seq (awp_seq ?_))
  refine awp_text (by kernel_rfl) ?_
  (refine r_pure (a_move (r := .p _)) rfl rfl ?_)
  (refine r_pure (a_lenStr Try.underlying9) rfl rfl ?_)
  (refine r_pure a_neq rfl rfl ?_)
  refine arun_nil ?_
  refine thn_n ?_
  refine awp_cond _ rfl (fun h => ?_) (fun h => ?_)
  · simp [hz] at h
  refine awp_skip (awp_seq ?_)
  refine awp_text (by kernel_rfl) ?_
  (refine r_pure (a_move (r := .p _)) rfl rfl ?_)
  (refine r_callV (fun n => 38 + 1000 * n) (hH) rfl rfl Try.func22 rfl rfl (by first | rfl | simp [AV.noSl, AV.noSlL, AObj.noSl, PV.isV, bs_noSl]) (by first | rfl | simp [AV.noSl, AV.noSlL, AObj.noSl, PV.isV, bs_noSl]) rfl rfl rfl (by first | exact trivial | exact ⟨rfl, trivial⟩ | exact ⟨rfl, rfl, trivial⟩) rfl rfl rfl ?_)
  (refine r_pure (a_move (r := .tup _)) rfl rfl ?_)
  (refine r_pure (a_extract rfl) rfl rfl ?_)
  (refine r_pure (a_extract rfl) rfl rfl ?_)
  (refine r_pure (a_assign (r := .row _)) rfl rfl ?_)
  (refine r_pure (a_assign (r := .p _)) rfl rfl ?_)
  refine arun_nil ?_
  refine awp_seq (awp_seq ?_)
  refine awp_text (by kernel_rfl) ?_
  (refine r_pure (a_move (r := .p _)) rfl rfl ?_)
  (refine r_pure a_neqT rfl rfl ?_)
  refine arun_nil ?_
  refine thn_n ?_
  refine awp_cond _ rfl (fun h => ?_) (fun h => ?_)
  · cases h
  refine awp_skip (awp_seq ?_)
  refine awp_text (by kernel_rfl) ?_
  (refine r_pure (a_move (r := .p _)) rfl rfl ?_)
  (refine r_callS (fun n => 47 + 1000 * n) (hMk) rfl rfl Try.func39 rfl rfl (by first | rfl | simp [AV.okInL, AV.okIn, okInL_map]) rfl rfl rfl (by first | exact trivial | exact ⟨rfl, trivial⟩ | exact ⟨rfl, rfl, trivial⟩) rfl rfl rfl ?_)
  (refine r_pure (a_move (r := .tup _)) rfl rfl ?_)
  (refine r_pure (a_extract rfl) rfl rfl ?_)
  (refine r_pure (a_extract rfl) rfl rfl ?_)
  (refine r_pure (a_assign (r := .p _)) rfl rfl ?_)
  (refine r_pure (a_assign (r := .p _)) rfl rfl ?_)
  refine arun_nil ?_
  refine awp_seq ?_
  refine awp_draw 4 (by kernel_rfl) ?_
  (refine r_pure (a_move (r := .p _)) rfl rfl ?_)
  (refine r_pure (a_move (r := .p _)) rfl rfl ?_)
  (refine r_callV (fun n => 53 + 1000 * n) (hNu) rfl rfl Try.func41 rfl rfl (by first | rfl | simp [AV.noSl, AV.noSlL, AObj.noSl, PV.isV, bs_noSl]) (by first | rfl | simp [AV.noSl, AV.noSlL, AObj.noSl, PV.isV, bs_noSl]) rfl rfl rfl (by first | exact trivial | exact ⟨rfl, trivial⟩ | exact ⟨rfl, rfl, trivial⟩) rfl rfl rfl ?_)
  (refine r_run (a_b2s Try.underlying22 Try.underlying5 Try.underlying9 (src_row) rfl rfl) rfl rfl ⟨rfl, trivial⟩ ?_)
  (refine r_pure (a_cat (by rw [zI]; decide) (show (⟨#[104, 101, 108, 108, 111]⟩ : ByteArray) ++ strOfNums BI = u1 from hu1)) rfl rfl ?_)
  (refine r_pure (a_move (r := .row _)) rfl rfl ?_)
  (refine r_run (a_b2s Try.underlying22 Try.underlying5 Try.underlying9 (src_row) rfl rfl) rfl rfl ⟨rfl, trivial⟩ ?_)
  (refine r_pure (a_cat (by rw [z1, zN]; decide) hu2) rfl rfl ?_)
  (refine r_pure (a_move (r := .p _)) rfl rfl ?_)
  (refine r_run (a_b2s Try.underlying22 Try.underlying5 Try.underlying9 (src_sl) rfl rfl) rfl rfl trivial ?_)
  (refine r_pure (a_cat (by rw [z2, zM]; decide) hu3) rfl rfl ?_)
  (refine r_run (a_s2b 62 Try.underlying9 Try.underlying22 Try.underlying5 (by first | omega | (simp only [maxLen]; omega)) z3 zs3) rfl rfl ⟨rfl, trivial⟩ ?_)
  (refine r_callV (fun n => 63 + 1000 * n) (hT) rfl rfl Try.func40 rfl rfl (by first | rfl | simp [AV.noSl, AV.noSlL, AObj.noSl, PV.isV, bs_noSl]) (by first | rfl | simp [AV.noSl, AV.noSlL, AObj.noSl, PV.isV, bs_noSl]) rfl rfl rfl (by first | exact trivial | exact ⟨rfl, trivial⟩ | exact ⟨rfl, rfl, trivial⟩) rfl rfl rfl ?_)
  (refine r_pure (a_move (r := .tup _)) rfl rfl ?_)
  (refine r_pure (a_extract rfl) rfl rfl ?_)
  (refine r_pure (a_extract rfl) rfl rfl ?_)
  (refine r_pure (a_assign (r := .row _)) rfl rfl ?_)
  (refine r_pure (a_assign (r := .p _)) rfl rfl ?_)
  refine arun_nil ⟨by kernel_rfl, ?_⟩
  refine awp_seq ?_
  refine awp_draw 4 (by kernel_rfl) ?_
  (refine r_pure (a_move (r := .p _)) rfl rfl ?_)
  (refine r_pure (a_move (r := .row _)) rfl rfl ?_)
  (refine r_run (a_b2s Try.underlying22 Try.underlying5 Try.underlying9 (src_row) rfl rfl) rfl rfl ⟨rfl, trivial⟩ ?_)
  (refine r_pure (a_move (r := .p _)) rfl rfl ?_)
  (refine r_run (a_b2s Try.underlying22 Try.underlying5 Try.underlying9 (src_sl) rfl rfl) rfl rfl trivial ?_)
  (refine r_pure (a_cat (by rw [zN, zM]; decide) hu4) rfl rfl ?_)
  (refine r_pure (a_move (r := .row _)) rfl rfl ?_)
  (refine r_run (a_sliceR (L := none) (H := (some (_, _))) Try.underlying22 sz5 rfl ⟨by omega, rfl⟩ (by omega) (by omega) rfl rfl) rfl rfl ⟨rfl, trivial⟩ ?_)
  refine r_run (a_b2s (xs := BT) Try.underlying22 Try.underlying5 Try.underlying9 (src_psl (by omega) hsub) rfl rfl) rfl rfl ⟨rfl, trivial⟩ ?_
  (refine r_pure (a_cat (by rw [z4, zT]; decide) hu5) rfl rfl ?_)
  (refine r_run (a_s2b 76 Try.underlying9 Try.underlying22 Try.underlying5 (by first | omega | (simp only [maxLen]; omega)) z5 zs5) rfl rfl ⟨rfl, trivial⟩ ?_)
  (refine r_pure (b_build pl24 zr24 rfl rfl) rfl rfl ?_)
  (refine r_run (a_alloc 19 zr24 rfl) rfl rfl ⟨rfl, trivial⟩ ?_)
  (refine r_run (a_storeAll (Y := .agg _) sz24 rfl (by first | exact Nat.eq_of_beq_eq_true rfl | (simp only [AV.cells, List.length_map]; first | assumption | omega)) (Nat.eq_of_beq_eq_true rfl)) rfl rfl ⟨rfl, trivial⟩ ?_)
  refine arun_nil ⟨by kernel_rfl, ?_⟩
  refine awp_reO (reo_fzR (cs := bs BB) 76 rfl) ?_
  refine awp_seq (awp_seq ?_)
  refine awp_text (by kernel_rfl) ?_
  (refine r_run (a_loadN Try.underlying24 rfl sz24 (by first | exact Nat.le_of_ble_eq_true rfl | omega | (simp only [AV.cells, List.length_map]; omega)) (by first | exact take_all (by first | assumption | exact Nat.eq_of_beq_eq_true rfl | (simp only [AV.cells, List.length_map]; first | assumption | omega)) | (simp only [List.take_succ_cons, List.take_zero, List.drop_succ_cons, List.drop_zero]; rfl) | rfl)) rfl rfl ⟨rfl, trivial⟩ ?_)
  (refine r_callV (fun n => 79 + 1000 * n) (hW) rfl rfl Try.func19 rfl rfl (by first | rfl | simp [AV.noSl, AV.noSlL, AObj.noSl, PV.isV, bs_noSl]) (by first | rfl | simp [AV.noSl, AV.noSlL, AObj.noSl, PV.isV, bs_noSl]) rfl rfl rfl (by first | exact trivial | exact ⟨rfl, trivial⟩ | exact ⟨rfl, rfl, trivial⟩) rfl rfl rfl ?_)
  (refine r_pure (a_assign (r := .p _)) rfl rfl ?_)
  refine arun_nil ?_
  refine awp_seq ?_
  refine awp_text (by kernel_rfl) ?_
  (refine r_pure (a_move (r := .p _)) rfl rfl ?_)
  (refine r_pure a_neq rfl rfl ?_)
  refine arun_nil ?_
  refine thn_n ?_
  refine awp_cond _ rfl (fun h => ?_) (fun h => ?_)
  · have he : e ≠ 0 := by simpa using h
    rw [if_neg he]
    refine awp_seq ?_
    refine awp_text (by kernel_rfl) ?_
    (refine r_pure (b_build pl24 zr24 rfl rfl) rfl rfl ?_)
    (refine r_pure (a_move (r := .p _)) rfl rfl ?_)
    (refine r_run (a_storeAll (Y := .agg _) sz24 rfl (by first | exact Nat.eq_of_beq_eq_true rfl | (simp only [AV.cells, List.length_map]; first | assumption | omega)) (Nat.eq_of_beq_eq_true rfl)) rfl rfl ⟨rfl, trivial⟩ ?_)
    (refine r_pure (a_assign (r := .p _)) rfl rfl ?_)
    refine arun_nil ?_
    refine awp_ret (thn_r ?_)
    refine ⟨(by first | exact .inl rfl | exact .inr rfl), _, (fun o => o), (.cellN _ _ _ _ _ _ _ _ _ rfl rfl Try.underlying24 rfl sz24 (by first | assumption | kernel_rfl) (.tmp _ _ _ _ rfl .nil)), ?_, rfl, ?_, rfl⟩
    · exact rfl
    · exact trivial
  · have he : e = 0 := by simpa using h
    rw [if_pos he]
    refine awp_skip (awp_seq ?_)
    refine awp_text (by kernel_rfl) ?_
    (refine r_run (a_loadN Try.underlying24 rfl sz24 (by first | exact Nat.le_of_ble_eq_true rfl | omega | (simp only [AV.cells, List.length_map]; omega)) (by first | exact take_all (by first | assumption | exact Nat.eq_of_beq_eq_true rfl | (simp only [AV.cells, List.length_map]; first | assumption | omega)) | (simp only [List.take_succ_cons, List.take_zero, List.drop_succ_cons, List.drop_zero]; rfl) | rfl)) rfl rfl ⟨rfl, trivial⟩ ?_)
    (refine r_run (a_storeAll (Y := .agg _) sz24 rfl (by first | exact Nat.eq_of_beq_eq_true rfl | (simp only [AV.cells, List.length_map]; first | assumption | omega)) (Nat.eq_of_beq_eq_true rfl)) rfl rfl ⟨rfl, trivial⟩ ?_)
    (refine r_pure (a_assign (r := .p _)) rfl rfl ?_)
    refine arun_nil ?_
    refine awp_ret ?_
    refine ⟨(by first | exact .inl rfl | exact .inr rfl), _, (fun o => o), (.cellN _ _ _ _ _ _ _ _ _ rfl rfl Try.underlying24 rfl sz24 (by first | assumption | kernel_rfl) (.tmp _ _ _ _ rfl .nil)), ?_, rfl, ?_, rfl⟩
    · exact rfl
    · exact trivial
end Go.Proofs.Ytmdkfhmmhiofbaa
