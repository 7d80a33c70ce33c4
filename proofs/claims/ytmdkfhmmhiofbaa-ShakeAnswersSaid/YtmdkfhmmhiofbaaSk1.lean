/- shake: numbers, tags, nonces, over data. -/
import Derived.Test.YtmdkfhmmhiofbaaFz
import Derived.Test.YtmdkfhmmhiofbaaBj
import Derived.Test.YtmdkfhmmhiofbaaKz1
import Derived.Test.YtmdkfhmmhiofbaaPs1
import Derived.Test.YtmdkfhmmhiofbaaPn1
import Derived.Test.YtmdkfhmmhiofbaaCl
import Derived.Test.YtmdkfhmmhiofbaaWi1
--%T
namespace Go.Proofs.Ytmdkfhmmhiofbaa
open Go.RowKit Go.Sort
set_option linter.unusedVariables false
set_option linter.unusedSimpArgs false
set_option maxRecDepth 100000

/-! hexadecimal texts are keys -/
theorem hx_dg : ∀ d : _root_.Fin 16, hx (dg d.val) = d.val := by decide +kernel
theorem hx_dg' {d : Int} (h0 : 0 ≤ d) (h1 : d < 16) : hx (dg d) = d := by
  have := hx_dg ⟨d.toNat, by omega⟩
  simp only at this
  rw [show ((d.toNat : Nat) : Int) = d by omega] at this
  exact this
theorem sAt_hexS {xs : List Int} (hB : isB xs) {i : Nat} {x : Int} (h : xs[i / 2]? = some x) : sAt (hexS xs) i = if i % 2 = 1 then dg (x % 16) else dg (x / 16) := by
  unfold sAt hexS
  rw [sb_nums (hexT_B hB), List.getD_eq_getElem?_getD, hexT_at h]; rfl
theorem hv_hexS {xs : List Int} (hB : isB xs) {i : Nat} {x : Int} (h : xs[i / 2]? = some x) : hv (hexS xs) i = if i % 2 = 1 then x % 16 else x / 16 := by
  unfold hv
  rw [sAt_hexS hB h]
  have hx := hB x (List.mem_of_getElem? h)
  split
  · exact hx_dg' (by omega) (by omega)
  · exact hx_dg' (by omega) (by omega)
theorem hexS_good {xs : List Int} (hB : isB xs) : hexGood (hexS xs) = true := by
  rw [hexGood_iff]
  intro i hi
  rw [hexS_size] at hi
  have h : xs[i / 2]? = some (xs[i / 2]'(by omega)) := List.getElem?_eq_getElem _
  rw [hv_hexS hB h]
  have hx := hB _ (List.mem_of_getElem? h)
  split <;> omega
theorem hexE_hexS {xs : List Int} (hB : isB xs) (hl : xs.length ≤ 1000) : hexE (hexS xs) = 0 := by
  unfold hexE
  rw [hexS_size, if_neg (by omega), if_pos (by omega), if_pos (hexS_good hB)]
theorem keyE_hexS {xs : List Int} (hB : isB xs) (hl : xs.length = 32) : keyE (hexS xs) = 0 := by
  unfold keyE
  rw [hexS_size, hl, if_pos rfl]
  exact hexE_hexS hB (by omega)
theorem keyE_secS (a b sh : ByteArray) : keyE (secS a b sh) = 0 := keyE_hexS (macD_B _ _) (macD_len _ _)

/-! numbers as four bytes -/
def beI (n : Int) : List Int := [n / 16777216 % 256, n / 65536 % 256, n / 256 % 256, n % 256]
theorem beI_B (n : Int) : isB (beI n) := by
  intro x hx
  simp only [beI, List.mem_cons, List.not_mem_nil, or_false] at hx
  omega
theorem shNum_s (n : Int) : Fn Try.prog 18 [.p (.v (.int .i64 n))] (.p (.sl 4 1 (bs (beI n)))) [] := by
  have w1 : IntKind.u8.wrap (n.fdiv (2 ^ min (24 : Int).toNat IntKind.i64.bits)) = n / 16777216 % 256 := by
    rw [show (2 : Int) ^ min (24 : Int).toNat IntKind.i64.bits = 16777216 from rfl, Int.fdiv_eq_ediv_of_nonneg _ (by omega)]; rfl
  have w2 : IntKind.u8.wrap (n.fdiv (2 ^ min (16 : Int).toNat IntKind.i64.bits)) = n / 65536 % 256 := by
    rw [show (2 : Int) ^ min (16 : Int).toNat IntKind.i64.bits = 65536 from rfl, Int.fdiv_eq_ediv_of_nonneg _ (by omega)]; rfl
  have w3 : IntKind.u8.wrap (n.fdiv (2 ^ min (8 : Int).toNat IntKind.i64.bits)) = n / 256 % 256 := by
    rw [show (2 : Int) ^ min (8 : Int).toNat IntKind.i64.bits = 256 from rfl, Int.fdiv_eq_ediv_of_nonneg _ (by omega)]; rfl
  have w4 : IntKind.u8.wrap n = n % 256 := rfl
  refine fn_intro Try.func18 rfl (Nat.le_of_ble_eq_true rfl) fun w0 A => ?_
  refine awp_seq ?_
  refine awp_text (by kernel_rfl) ?_
  (refine r_pure (a_assign (r := .p _)) rfl rfl ?_)
  refine arun_nil ?_
  refine awp_seq ?_
  refine awp_text (by kernel_rfl) ?_
  (refine r_pure (a_move (r := .p _)) rfl rfl ?_)
  (refine r_pure (a_shr (by omega) rfl) rfl rfl ?_)
  (refine r_pure (a_conv Try.underlying3 Try.underlying5 w1) rfl rfl ?_)
  (refine r_pure (a_move (r := .p _)) rfl rfl ?_)
  (refine r_pure (a_shr (by omega) rfl) rfl rfl ?_)
  (refine r_pure (a_conv Try.underlying3 Try.underlying5 w2) rfl rfl ?_)
  (refine r_pure (a_move (r := .p _)) rfl rfl ?_)
  (refine r_pure (a_shr (by omega) rfl) rfl rfl ?_)
  (refine r_pure (a_conv Try.underlying3 Try.underlying5 w3) rfl rfl ?_)
  (refine r_pure (a_move (r := .p _)) rfl rfl ?_)
  (refine r_pure (a_conv Try.underlying3 Try.underlying5 w4) rfl rfl ?_)
  (refine r_run (xs := [.p (.v (.int .u8 (n / 16777216 % 256))), .p (.v (.int .u8 (n / 65536 % 256))), .p (.v (.int .u8 (n / 256 % 256))), .p (.v (.int .u8 (n % 256)))]) (a_buildSlice (es := [.p (.v (.int .u8 (n / 16777216 % 256))), .p (.v (.int .u8 (n / 65536 % 256))), .p (.v (.int .u8 (n / 256 % 256))), .p (.v (.int .u8 (n % 256)))]) (cs := [.v (.int .u8 (n / 16777216 % 256)), .v (.int .u8 (n / 65536 % 256)), .v (.int .u8 (n / 256 % 256)), .v (.int .u8 (n % 256))]) 14 Try.underlying22 sz5 zc5 (Nat.le_of_ble_eq_true rfl) (Nat.le_of_ble_eq_true rfl) rfl (by kernel_rfl) (by kernel_rfl) (by kernel_rfl) (Nat.le_of_ble_eq_true rfl)) (by first | rfl | kernel_rfl) rfl ⟨rfl, trivial⟩ ?_)
  (refine r_pure (a_assign (r := .row _)) rfl rfl ?_)
  refine arun_nil ?_
  refine thn_n (awp_reO (reo_fzR (cs := bs (beI n)) 14 rfl) ?_)
  refine awp_ret ?_
  refine ⟨(by first | exact .inl rfl | exact .inr rfl), _, (fun o => o), (.tmp _ _ _ _ rfl .nil), ?_, rfl, ?_, rfl⟩
  · exact rfl
  · exact trivial

/-! tags -/
theorem join3 {a b c : List Int} : [a, b, c].flatten = a ++ b ++ c := by simp
theorem stag_s (k u : ByteArray) (a b c : List Int) (hk : keyE k = 0) (ha : isB a) (hb : isB b) (hc : isB c) (hz : u.size + (a.length + b.length + c.length) ≤ 900) :
    Fn Try.prog 17 [.p (.v (.string k)), .p (.v (.string u)), .p (.sl 3 1 [.sl a.length 1 (bs a), .sl b.length 1 (bs b), .sl c.length 1 (bs c)])] (.tup [.p (.sl 16 1 (bs ((macD k (sb u ++ (a ++ b ++ c))).take 16))), .p (.v (.int .i64 0))]) [] := by
  have hJ := bjoin_s [a, b, c] (by intro x hx; simp only [List.mem_cons, List.not_mem_nil, or_false] at hx; rcases hx with rfl | rfl | rfl <;> assumption) (by simp) (by simp) (by rw [join3]; simp only [List.length_append]; omega)
  rw [join3] at hJ
  have hB : isB (sb u ++ (a ++ b ++ c)) := isB_app (sb_isB u) (isB_app (isB_app ha hb) hc)
  have hlen : (sb u ++ (a ++ b ++ c)).length = u.size + (a ++ b ++ c).length := by rw [List.length_append, sb_length]
  have hT := tag_s k (u.size + (a ++ b ++ c).length) (sb u ++ (a ++ b ++ c)) hlen hB
  have hal : (a ++ b ++ c).length = a.length + b.length + c.length := by simp only [List.length_append]
  obtain ⟨e1, e2⟩ := bRes_good (show macE k (u.size + (a ++ b ++ c).length) = 0 by unfold macE; rw [if_pos hk, if_neg (by omega)]) 32 (macD k (sb u ++ (a ++ b ++ c)))
  rw [e1, e2] at hT
  clear e1 e2
  have hD := macD_len k (sb u ++ (a ++ b ++ c))
  have happ : bs (sb u) ++ bs (a ++ b ++ c) = bs (sb u ++ (a ++ b ++ c)) := bs_appd
  have hJ' : Fn Try.prog 29 [.p (.sl 3 1 [.sl a.length 1 (bs a), .sl b.length 1 (bs b), .sl c.length 1 (bs c)]), .p (.v (.slice none 0 0))] (.p (.sl (a ++ b ++ c).length 1 (bs (a ++ b ++ c)))) [] := hJ
  have hbl : (bs (macD k (sb u ++ (a ++ b ++ c)))).length = 32 := by rw [bs_length]; exact hD
  have ht16 : bs ((macD k (sb u ++ (a ++ b ++ c))).take 16) = ((bs (macD k (sb u ++ (a ++ b ++ c)))).drop 0).take (16 * 1) := by simp [bs, List.map_take]
  rw [ht16]
  generalize macD k (sb u ++ (a ++ b ++ c)) = D at *
  clear hJ hB hlen ht16
  generalize a ++ b ++ c = J at *

  refine fn_intro Try.func17 rfl (Nat.le_of_ble_eq_true rfl) fun w0 A => ?_
  refine awp_seq ?_
  refine awp_text (by kernel_rfl) ?_
  (refine r_pure (a_assign (r := .p _)) rfl rfl ?_)
  (refine r_pure (a_assign (r := .p _)) rfl rfl ?_)
  refine arun_nil ?_
  refine awp_seq ?_
  refine awp_text (by kernel_rfl) ?_
  (refine r_pure (a_move (r := .p _)) rfl rfl ?_)
  (refine r_pure (a_move (r := .p _)) rfl rfl ?_)
  (refine r_run (a_s2b 13 Try.underlying9 Try.underlying22 Try.underlying5 (by first | omega | (simp only [maxLen]; omega)) rfl rfl) rfl rfl ⟨rfl, trivial⟩ ?_)
  (refine r_pure (a_move (r := .p _)) rfl rfl ?_)
  (refine r_callS (fun n => 15 + 1000 * n) (hJ') rfl rfl Try.func29 rfl rfl (by first | rfl | simp [AV.okInL, AV.okIn, okInL_map]) rfl rfl rfl (by first | exact trivial | exact ⟨rfl, trivial⟩ | exact ⟨rfl, rfl, trivial⟩) rfl rfl rfl ?_)
  (refine r_run (a_append 16 Try.underlying22 eo5 (src_sl) (by simp only [maxLen]; omega) (by omega) rfl happ) rfl rfl ⟨rfl, rfl, trivial⟩ ?_)
  (refine r_callV (fun n => 17 + 1000 * n) (hT) rfl rfl Try.func37 rfl rfl (by first | rfl | simp [AV.noSl, AV.noSlL, AObj.noSl, PV.isV, bs_noSl]) (by first | rfl | simp [AV.noSl, AV.noSlL, AObj.noSl, PV.isV, bs_noSl]) rfl rfl rfl (by first | exact trivial | exact ⟨rfl, trivial⟩ | exact ⟨rfl, rfl, trivial⟩) rfl rfl rfl ?_)
  (refine r_pure (a_move (r := .tup _)) rfl rfl ?_)
  (refine r_pure (a_extract rfl) rfl rfl ?_)
  (refine r_pure (a_extract rfl) rfl rfl ?_)
  (refine r_pure (a_assign (r := .row _)) rfl rfl ?_)
  (refine r_pure (a_assign (r := .p _)) rfl rfl ?_)
  refine arun_nil ?_
  refine awp_seq (awp_seq ?_)
  refine awp_text (by kernel_rfl) ?_
  (refine r_pure (a_move (r := .p _)) rfl rfl ?_)
  (refine r_pure a_neqT rfl rfl ?_)
  refine arun_nil ?_
  refine thn_n ?_
  refine awp_cond _ rfl (fun h => ?_) (fun h => ?_)
  · cases h
  refine awp_reO (reo_fzR (cs := bs D) 17 rfl) ?_
  refine awp_skip (awp_seq ?_)
  refine awp_text (by kernel_rfl) ?_
  (first | refine r_pure (a_move (r := .row _)) rfl rfl ?_ | refine r_pure (a_move (r := .p _)) rfl rfl ?_)
  (first | refine r_run (a_sliceR (L := none) (H := (some (_, _))) Try.underlying22 sz5 rfl ⟨by omega, rfl⟩ (by omega) (by omega) rfl rfl) rfl rfl ⟨rfl, trivial⟩ ?_ | refine r_pure (a_sliceS (L := none) (H := (some (_, _))) Try.underlying22 sz5 rfl ⟨by omega, rfl⟩ (by omega) (by omega) rfl rfl) rfl rfl ?_)
  (first | refine r_pure (a_assign (r := .psl _ _ _ _)) rfl rfl ?_ | refine r_pure (a_assign (r := .p _)) rfl rfl ?_)
  (refine r_pure (a_assign (r := .p _)) rfl rfl ?_)
  refine arun_nil ?_
  refine awp_ret ?_
  refine ⟨(by first | exact .inl rfl | exact .inr rfl), _, (fun o => o), (.tmp _ _ _ _ rfl (.tmp _ _ _ _ rfl .nil)), ?_, rfl, ?_, rfl⟩
  · exact rfl
  · exact trivial

/-! nonces -/
def noE (s : ByteArray) : Int := if s.size = 16 then hexE s else 1
theorem shNonce_s (s : ByteArray) : Fn Try.prog 14 [.p (.v (.string s))] (pRes (noE s) 8 (hexVals s 8)) [] := by
  have hB := hexBytes_s s
  by_cases hz : s.size = 16
  · have hE : noE s = hexE s := by unfold noE; rw [if_pos hz]
    rw [hE]
    by_cases he : hexE s = 0
    · obtain ⟨e1, e2⟩ := hexRes_good he
      rw [e1, e2, hz] at hB
      rw [pRes_good he]
      change Fn Try.prog 32 _ _ [(0, .row 5 1 8 (bs (hexVals s 8)))] at hB
      generalize hexVals s 8 = D at *
      refine fn_intro Try.func14 rfl (Nat.le_of_ble_eq_true rfl) fun w0 A => ?_
      refine awp_seq ?_
      refine awp_text (by kernel_rfl) ?_
      (refine r_pure (a_assign (r := .p _)) rfl rfl ?_)
      (refine r_pure (a_assign (r := .p _)) rfl rfl ?_)
      refine arun_nil ?_
      refine awp_seq (awp_seq ?_)
      refine awp_text (by kernel_rfl) ?_
      (refine r_pure (a_move (r := .p _)) rfl rfl ?_)
      (refine r_pure (a_lenStr Try.underlying9) rfl rfl ?_)
      (refine r_pure a_neq rfl rfl ?_)
      refine arun_nil ?_
      refine thn_n ?_
      refine awp_cond _ rfl (fun h => ?_) (fun h => ?_)
      · simp [hz] at h
      refine awp_skip (awp_seq ?_)
      refine awp_text (by kernel_rfl) ?_
      (refine r_pure (a_move (r := .p _)) rfl rfl ?_)
      (refine r_callV (fun n => 8 + 1000 * n) (hB) rfl rfl Try.func32 rfl rfl (by first | rfl | simp [AV.noSl, AV.noSlL, AObj.noSl, PV.isV, bs_noSl]) (by first | rfl | simp [AV.noSl, AV.noSlL, AObj.noSl, PV.isV, bs_noSl]) rfl rfl rfl (by first | exact trivial | exact ⟨rfl, trivial⟩ | exact ⟨rfl, rfl, trivial⟩) rfl rfl rfl ?_)
      (refine r_pure (a_extract rfl) rfl rfl ?_)
      (refine r_pure (a_extract rfl) rfl rfl ?_)
      (refine r_pure (a_assign (r := .row _)) rfl rfl ?_)
      (refine r_pure (a_assign (r := .p _)) rfl rfl ?_)
      refine arun_nil ?_
      refine awp_ret ?_
      refine ⟨(by first | exact .inl rfl | exact .inr rfl), _, (fun o => o), (.tmp _ _ _ _ rfl (.tmp _ _ _ _ rfl .nil)), ?_, rfl, ?_, rfl⟩
      · exact rfl
      · exact trivial
    · obtain ⟨e1, e2⟩ := hexRes_bad rfl he
      rw [e1, e2] at hB
      rw [pRes_bad rfl he]
      generalize hexE s = e at *
      refine fn_intro Try.func14 rfl (Nat.le_of_ble_eq_true rfl) fun w0 A => ?_
      refine awp_seq ?_
      refine awp_text (by kernel_rfl) ?_
      (refine r_pure (a_assign (r := .p _)) rfl rfl ?_)
      (refine r_pure (a_assign (r := .p _)) rfl rfl ?_)
      refine arun_nil ?_
      refine awp_seq (awp_seq ?_)
      refine awp_text (by kernel_rfl) ?_
      (refine r_pure (a_move (r := .p _)) rfl rfl ?_)
      (refine r_pure (a_lenStr Try.underlying9) rfl rfl ?_)
      (refine r_pure a_neq rfl rfl ?_)
      refine arun_nil ?_
      refine thn_n ?_
      refine awp_cond _ rfl (fun h => ?_) (fun h => ?_)
      · simp [hz] at h
      refine awp_skip (awp_seq ?_)
      refine awp_text (by kernel_rfl) ?_
      (refine r_pure (a_move (r := .p _)) rfl rfl ?_)
      (refine r_callV (fun n => 8 + 1000 * n) (hB) rfl rfl Try.func32 rfl rfl (by first | rfl | simp [AV.noSl, AV.noSlL, AObj.noSl, PV.isV, bs_noSl]) (by first | rfl | simp [AV.noSl, AV.noSlL, AObj.noSl, PV.isV, bs_noSl]) rfl rfl rfl (by first | exact trivial | exact ⟨rfl, trivial⟩ | exact ⟨rfl, rfl, trivial⟩) rfl rfl rfl ?_)
      (refine r_pure (a_extract rfl) rfl rfl ?_)
      (refine r_pure (a_extract rfl) rfl rfl ?_)
      (refine r_pure (a_assign (r := .p _)) rfl rfl ?_)
      (refine r_pure (a_assign (r := .p _)) rfl rfl ?_)
      refine arun_nil ?_
      refine awp_ret ?_
      refine ⟨(by first | exact .inl rfl | exact .inr rfl), _, (fun o => o), (.tmp _ _ _ _ rfl (.tmp _ _ _ _ rfl .nil)), ?_, rfl, ?_, rfl⟩
      · exact rfl
      · exact trivial
  · have hE : noE s = 1 := by unfold noE; rw [if_neg hz]
    rw [pRes_bad hE (by decide)]
    refine fn_intro Try.func14 rfl (Nat.le_of_ble_eq_true rfl) fun w0 A => ?_
    refine awp_seq ?_
    refine awp_text (by kernel_rfl) ?_
    (refine r_pure (a_assign (r := .p _)) rfl rfl ?_)
    (refine r_pure (a_assign (r := .p _)) rfl rfl ?_)
    refine arun_nil ?_
    refine awp_seq (awp_seq ?_)
    refine awp_text (by kernel_rfl) ?_
    (refine r_pure (a_move (r := .p _)) rfl rfl ?_)
    (refine r_pure (a_lenStr Try.underlying9) rfl rfl ?_)
    (refine r_pure a_neq rfl rfl ?_)
    refine arun_nil ?_
    refine thn_n ?_
    refine awp_cond _ rfl (fun h => ?_) (fun h => ?_)
    · refine awp_seq ?_
      refine awp_text (by kernel_rfl) ?_
      (refine r_pure (a_assign (r := .p _)) rfl rfl ?_)
      (refine r_pure (a_assign (r := .p _)) rfl rfl ?_)
      refine arun_nil ?_
      refine awp_ret (thn_r ?_)
      refine ⟨(by first | exact .inl rfl | exact .inr rfl), _, (fun o => o), (.tmp _ _ _ _ rfl (.tmp _ _ _ _ rfl .nil)), ?_, rfl, ?_, rfl⟩
      · exact rfl
      · exact trivial
    · exact absurd (by simp at h; omega) hz

/-! the reference's number as four bytes -/
theorem i64_and_255Z (n : Int) : bits .and .i64 n 255 = n % 256 := by
  have h2 : (BitVec.ofInt 64 (255 : Int)).toNat = 2 ^ 8 - 1 := by decide
  show IntKind.i64.wrap ((BitVec.ofInt 64 n &&& BitVec.ofInt 64 255).toNat : Int) = _
  rw [BitVec.toNat_and, h2, Nat.and_two_pow_sub_one_eq_mod, BitVec.toNat_ofInt, IntKind.wrap_i64]
  have e : ((2 ^ 64 : Nat) : Int) = 18446744073709551616 := rfl
  rw [e]
  omega
def qz (n : Int) : Nat → Int
  | 0 => n
  | k + 1 => qz n k / 256
theorem qz_in {n : Int} (h0 : -9223372036854775808 ≤ n) (h1 : n ≤ 9223372036854775807) (k : Nat) : -9223372036854775808 ≤ qz n k ∧ qz n k ≤ 9223372036854775807 := by
  induction k with
  | zero => exact ⟨h0, h1⟩
  | succ k ih => simp only [qz]; omega
def bzK (n : Int) (k : Nat) : List Int := List.replicate (4 - k) 0 ++ (beI n).drop (4 - k)
theorem bzK_len (n : Int) {k : Nat} (hk : k ≤ 4) : (bzK n k).length = 4 := by
  rw [bzK, List.length_append, List.length_replicate, List.length_drop]
  show 4 - k + (4 - (4 - k)) = 4
  omega
theorem bzK_set (n : Int) {k : Nat} (hk : k < 4) : (bzK n k).set (3 - k) (qz n k % 256) = bzK n (k + 1) := by
  match k, hk with
  | 0, _ => simp [bzK, beI, qz]
  | 1, _ => simp [bzK, beI, qz]
  | 2, _ => simp [bzK, beI, qz, Int.ediv_ediv_of_nonneg]
  | 3, _ => simp [bzK, beI, qz, Int.ediv_ediv_of_nonneg]
set_option maxHeartbeats 1000000 in
theorem bigZ_s (n : Int) (n0 : -9223372036854775808 ≤ n) (n1 : n ≤ 9223372036854775807) : Fn Try.prog 41 [.p (.v (.int .i64 n)), .p (.v (.int .i64 4))] (.row 0) [(0, .row 5 1 4 (bs (beI n)))] := by
  refine fn_intro Try.func41 rfl (Nat.le_of_ble_eq_true rfl) fun w0 A => ?_
  refine awp_seq ?_
  refine awp_text (by kernel_rfl) ?_
  (refine r_pure (a_assign (r := .p _)) rfl rfl ?_)
  refine arun_nil ?_
  refine awp_seq ?_
  refine awp_text (by kernel_rfl) ?_
  (refine r_pure (a_move (r := .p _)) rfl rfl ?_)
  (refine r_run (a_make1 8 Try.underlying22 eo5 zr5 rfl (by omega) (by omega) (by omega) (by simp only [maxLen]; omega) rfl) rfl rfl ⟨rfl, trivial⟩ ?_)
  (refine r_pure (a_assign (r := .row _)) rfl rfl ?_)
  refine arun_nil ?_
  refine awp_seq (awp_seq ?_)
  refine awp_text (by kernel_rfl) ?_
  (refine r_pure (a_move (r := .p _)) rfl rfl ?_)
  (refine r_pure (a_sub (by first | exact IntWalk.i64_in _ (by omega) | rfl)) rfl rfl ?_)
  (refine r_pure (a_assign (r := .p _)) rfl rfl ?_)
  refine arun_nil ?_
  refine awp_block ?_
  refine awp_loopR (fun m st => ∃ k : Nat, m + k = 4 ∧ st = St.of [(0, .p (.v (.int .i64 (qz n k)))), (5, .row 5), (6, .p (.v (.int .i64 (3 - (k : Int)))))] [(5, .row 5 1 4 (bs (bzK n k)))]) 4 ?_ ?_
  · refine ⟨_, re_of (fun _ => 8) _ _ ?_ ?_ rfl, 0, by omega, rfl⟩
    · exact (by repeat (first | exact trivial | refine ⟨⟨rfl, rfl⟩, ?_⟩))
    · exact ⟨⟨rfl, rfl⟩, trivial⟩
  rintro m st ⟨k, hk, rfl⟩
  refine awp_seq (awp_seq ?_)
  refine awp_text (by kernel_rfl) ?_
  (refine r_pure (a_move (r := .p _)) rfl rfl ?_)
  (refine r_pure a_geq rfl rfl ?_)
  refine arun_nil ?_
  refine thn_n ?_
  refine awp_cond _ rfl (fun h => ?_) (fun h => ?_)
  · have hlt : k < 4 := by simp at h; omega
    clear h
    have hset := bzK_set n hlt
    have hlen := bzK_len n (Nat.le_of_lt hlt)
    have hnx : qz n (k + 1) = qz n k / 256 := rfl
    generalize qz n k = q at hset hnx ⊢
    have g4 : setR (bs (bzK n k)) (3 - k) [.v (.int .u8 (q % 256))] = bs (bzK n (k + 1)) := by rw [bs_set (by omega), hset]
    have g5 : (bs (bzK n k)).length = 4 := by rw [bs_length]; exact hlen
    have g6 : q.fdiv (2 ^ min (8 : Int).toNat IntKind.i64.bits) = q / 256 := by
      rw [show (2 : Int) ^ min (8 : Int).toNat IntKind.i64.bits = 256 from rfl, Int.fdiv_eq_ediv_of_nonneg _ (by omega)]
    refine awp_skip (awp_seq (awp_block (awp_seq ?_)))
    refine awp_text (by kernel_rfl) ?_
    (refine r_pure (a_move (r := .row _)) rfl rfl ?_)
    (refine r_pure (a_move (r := .p _)) rfl rfl ?_)
    (refine r_pure (a_move (r := .p _)) rfl rfl ?_)
    (refine r_pure (a_bits (by simp) (i64_and_255Z q)) rfl rfl ?_)
    (refine r_pure (a_conv Try.underlying3 Try.underlying5 (by first | exact IntWalk.u8_in _ (by omega) | rfl)) rfl rfl ?_)
    (refine r_run (a_indexAddrR Try.underlying22 sz5 (by omega) (by omega) (show _ = 3 - k by omega)) rfl rfl ⟨rfl, trivial⟩ ?_)
    (refine r_run (a_storeR (Y := .p _) sz5 rfl rfl (by first | rfl | omega) (by first | omega | (simp; done) | (simp; omega)) g4) rfl rfl ⟨rfl, trivial⟩ ?_)
    refine arun_nil ?_
    refine thn_n ?_
    refine awp_text (by kernel_rfl) ?_
    (refine r_pure (a_move (r := .p _)) rfl rfl ?_)
    (refine r_pure (a_shr (by omega) g6) rfl rfl ?_)
    (refine r_pure (a_assign (r := .p _)) rfl rfl ?_)
    refine arun_nil ?_
    refine inb_n (thn_n ?_)
    refine awp_text (by kernel_rfl) ?_
    (refine r_pure (a_move (r := .p _)) rfl rfl ?_)
    (refine r_pure (a_sub (by first | exact IntWalk.i64_in _ (by omega) | rfl)) rfl rfl ?_)
    (refine r_pure (a_assign (r := .p _)) rfl rfl ?_)
    refine arun_nil ?_
    refine thn_n ?_
    refine ⟨m - 1, by omega, _, re_of id _ _ ?_ ?_ rfl, k + 1, by omega, rfl⟩
    · refine ⟨⟨?_, rfl⟩, ⟨rfl, rfl⟩, ⟨?_, rfl⟩, trivial⟩
      · show AV.p (.v (.int .i64 (q / 256))) = AV.p (.v (.int .i64 (qz n (k + 1))))
        rw [hnx]
      · show AV.p (.v (.int .i64 (3 - (k : Int) - 1))) = AV.p (.v (.int .i64 (3 - ((k + 1 : Nat) : Int))))
        congr 3; omega
    · exact ⟨⟨rfl, rfl⟩, trivial⟩
  have hge : k = 4 := by simp at h; omega
  clear h
  subst hge
  rw [show bzK n 4 = beI n by simp [bzK]]
  refine awp_exit (awp_seq ?_)
  refine awp_text (by kernel_rfl) ?_
  (refine r_pure (a_move (r := .row _)) rfl rfl ?_)
  (refine r_pure (a_assign (r := .row _)) rfl rfl ?_)
  refine arun_nil ?_
  refine awp_ret ?_
  refine ⟨(by first | exact .inl rfl | exact .inr rfl), _, (fun _ => 5), (.tmp _ _ _ _ rfl .nil), ?_, rfl, ?_, rfl⟩
  · exact rfl
  · exact ⟨⟨rfl, rfl⟩, trivial⟩
end Go.Proofs.Ytmdkfhmmhiofbaa
