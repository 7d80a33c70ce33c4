/- mac.keyed and mac.Tag, over data. -/
import Derived.Test.YtmdkfhmmhiofbaaMa3
import Derived.Test.YtmdkfhmmhiofbaaHx
import Derived.Test.YtmdkfhmmhiofbaaShb
import Derived.Test.YtmdkfhmmhiofbaaSm
namespace Go.Proofs.Ytmdkfhmmhiofbaa
open Go.RowKit Go.Sort
set_option linter.unusedVariables false
set_option linter.unusedSimpArgs false
set_option maxRecDepth 100000

def xb (x c : Int) : Int := bits .xor .u8 x c
theorem xb_B (x c : Int) : 0 ≤ xb x c ∧ xb x c < 256 := by
  have e : xb x c = IntKind.u8.wrap ((BitVec.ofInt 8 x ^^^ BitVec.ofInt 8 c).toNat : Int) := rfl
  rw [e, IntKind.wrap_u8]; omega
def kz (ks : List Int) : List Int := ks ++ List.replicate 32 0
def kyd (ks : List Int) (c : Int) : List Int := (kz ks).map fun x => xb x c
def kyK (L : List Int) (c : Int) (k : Nat) : List Int := (L.take k).map (fun x => xb x c) ++ L.drop k
theorem kyd_B (ks : List Int) (c : Int) : isB (kyd ks c) := by
  intro x hx
  obtain ⟨y, _, rfl⟩ := List.mem_map.1 hx
  exact xb_B _ _
theorem kz_len {ks : List Int} (h : ks.length = 32) : (kz ks).length = 64 := by simp [kz, h]
theorem kyd_len {ks : List Int} (c : Int) (h : ks.length = 32) : (kyd ks c).length = 64 := by simp [kyd, kz_len h]
theorem kyK_len (L : List Int) (c : Int) (k : Nat) (h : k ≤ L.length) : (kyK L c k).length = L.length := by simp [kyK]; omega
theorem kyK_at {L : List Int} {c : Int} {k : Nat} {x : Int} (h : L[k]? = some x) : (kyK L c k)[k]? = some x ∧ (kyK L c k).set k (xb x c) = kyK L c (k + 1) := by
  have hk := (List.getElem?_eq_some_iff.1 h).1
  have e := (List.getElem?_eq_some_iff.1 h).2
  have hl : ((L.take k).map fun x => xb x c).length = k := by simp; omega
  constructor
  · rw [kyK, List.getElem?_append_right (by omega), hl, Nat.sub_self, List.getElem?_drop, Nat.add_zero, h]
  · rw [kyK, List.set_append_right _ _ (by omega), hl, Nat.sub_self, List.drop_eq_getElem_cons hk, List.set_cons_zero, kyK, List.take_succ_eq_append_getElem hk, List.map_append, e]
    simp

set_option maxHeartbeats 1000000 in
theorem keyed_s (ks : List Int) (c : Int) (hl : ks.length = 32) : Fn Try.prog 52 [.p (.sl 32 1 (bs ks)), .p (.v (.int .u8 c))] (.row 0) [(0, .row 5 1 64 (bs (kyd ks c)))] := by
  have hcp : setR (List.replicate 64 (PV.v (.int .u8 0))) 0 (bs ks) = bs (kz ks) := by
    simp [setR, kz, bs, hl]
  have hzl := kz_len hl
  have hfin : kyd ks c = kyK (kz ks) c 64 := by simp only [kyd, kyK]; rw [List.take_of_length_le (by omega), List.drop_of_length_le (by omega), List.append_nil]
  rw [hfin]
  clear hfin
  refine fn_intro Try.func52 rfl (Nat.le_of_ble_eq_true rfl) fun w0 A => ?_
  refine awp_seq ?_
  refine awp_text (by kernel_rfl) ?_
  (refine r_pure (a_assign (r := .p _)) rfl rfl ?_)
  refine arun_nil ?_
  refine awp_seq ?_
  refine awp_text (by kernel_rfl) ?_
  (refine r_run (a_make1 7 Try.underlying22 eo5 zr5 rfl (by omega) (by omega) (by omega) (by simp only [maxLen]; omega) (show _ = 64 from rfl)) rfl rfl ⟨rfl, trivial⟩ ?_)
  (refine r_pure (a_assign (r := .row _)) rfl rfl ?_)
  refine arun_nil ?_
  refine awp_seq ?_
  refine awp_text (by kernel_rfl) ?_
  (refine r_pure (a_move (r := .row _)) rfl rfl ?_)
  (refine r_pure (a_move (r := .p _)) rfl rfl ?_)
  (refine r_run (a_copy Try.underlying22 sz5 (src_sl) (by omega) (by omega) (List.length_replicate) hcp) rfl rfl ⟨rfl, trivial⟩ ?_)
  refine arun_nil ?_
  refine awp_seq (awp_seq ?_)
  generalize kz ks = L at hzl
  refine awp_text (by kernel_rfl) ?_
  (refine r_pure (a_move (r := .row _)) rfl rfl ?_)
  (refine r_run (a_lenR Try.underlying22) rfl rfl ⟨rfl, trivial⟩ ?_)
  (refine r_pure (a_move (r := .p _)) rfl rfl ?_)
  refine arun_nil ?_
  refine awp_block ?_
  refine awp_loopR (fun m st => ∃ k : Nat, m + k = 64 ∧ st = St.of [(1, .p (.v (.int .u8 c))), (5, .row 5), (12, .p (.v (.int .i64 64))), (13, .p (.v (.int .i64 k)))] [(5, .row 5 1 64 (bs (kyK L c k)))]) 64 ?_ ?_
  · refine ⟨_, re_of (fun _ => 7) _ _ ?_ ?_ rfl, 0, by omega, rfl⟩
    · (repeat (first | exact trivial | (refine ⟨⟨(by first | rfl | (simp; done) | (simp; omega)), rfl⟩, ?_⟩)))
    · exact ⟨⟨rfl, rfl⟩, trivial⟩
  rintro m st ⟨k, hk, rfl⟩
  refine awp_seq ?_
  refine awp_text (by kernel_rfl) ?_
  (refine r_pure a_lss rfl rfl ?_)
  refine arun_nil ?_
  refine awp_seq ?_
  refine awp_cond _ rfl (fun h => ?_) (fun h => ?_)
  · have hlt : k < 64 := by simp at h; omega
    clear h
    obtain ⟨x, hx⟩ : ∃ x, L[k]? = some x := ⟨L[k]'(by omega), List.getElem?_eq_getElem (by omega)⟩
    obtain ⟨g1, g2⟩ := kyK_at (c := c) hx
    have g3 := bs_at g1
    have g5 : (bs (kyK L c k)).length = 64 := by rw [bs_length, kyK_len _ _ _ (by omega), hzl]
    have g4 : setR (bs (kyK L c k)) k [.v (.int .u8 (xb x c))] = bs (kyK L c (k + 1)) := by rw [bs_set (by rw [bs_length] at g5; omega), g2]
    refine awp_skip (awp_seq (awp_block (awp_seq ?_)))
    refine awp_text (by kernel_rfl) ?_
    (refine r_pure (a_move (r := .p _)) rfl rfl ?_)
    (refine r_pure (a_assign (r := .p _)) rfl rfl ?_)
    refine arun_nil ?_
    refine thn_n ?_
    refine awp_text (by kernel_rfl) ?_
    (refine r_pure (a_move (r := .row _)) rfl rfl ?_)
    (refine r_pure (a_move (r := .p _)) rfl rfl ?_)
    (refine r_run (a_indexAddrR Try.underlying22 sz5 (by omega) (by omega) (show _ = k by omega)) rfl rfl ⟨rfl, trivial⟩ ?_)
    (refine r_run (a_load1r Try.underlying5 rfl g3) rfl rfl ⟨rfl, trivial⟩ ?_)
    (refine r_pure (a_move (r := .p _)) rfl rfl ?_)
    (refine r_pure (a_bits (by simp) (show _ = xb x c from rfl)) rfl rfl ?_)
    (refine r_run (a_indexAddrR Try.underlying22 sz5 (by omega) (by omega) (show _ = k by omega)) rfl rfl ⟨rfl, trivial⟩ ?_)
    (refine r_run (a_storeR (Y := .p _) sz5 rfl rfl (by first | rfl | omega) (by first | omega | (simp; done) | (simp; omega)) g4) rfl rfl ⟨rfl, trivial⟩ ?_)
    refine arun_nil ?_
    refine inb_n (thn_n ?_)
    refine awp_text (by kernel_rfl) ?_
    (refine r_pure (a_add (by first | exact IntWalk.i64_in _ (by omega) | rfl)) rfl rfl ?_)
    (refine r_pure (a_move (r := .p _)) rfl rfl ?_)
    refine arun_nil ?_
    refine thn_n ?_
    refine ⟨m - 1, by omega, _, re_of id _ _ ?_ ?_ rfl, k + 1, by omega, rfl⟩
    · (repeat (first | exact trivial | (refine ⟨⟨(by first | rfl | (simp; done) | (simp; omega)), rfl⟩, ?_⟩)))
    · exact ⟨⟨rfl, rfl⟩, trivial⟩
  have hge : k = 64 := by simp at h; omega
  clear h
  subst hge
  refine awp_exit (awp_seq ?_)
  refine awp_text (by kernel_rfl) ?_
  (refine r_pure (a_move (r := .row _)) rfl rfl ?_)
  (refine r_pure (a_assign (r := .row _)) rfl rfl ?_)
  refine arun_nil ?_
  refine awp_ret ?_
  refine ⟨(by first | exact .inl rfl | exact .inr rfl), _, (fun _ => 5), (.tmp _ _ _ _ rfl .nil), ?_, rfl, ?_, rfl⟩
  · exact rfl
  · exact ⟨⟨rfl, rfl⟩, trivial⟩

/-! ### tags -/
def macE (s : ByteArray) (n : Nat) : Int := if keyE s = 0 then (if 936 < n then 1 else 0) else keyE s
def macD (s : ByteArray) (b : List Int) : List Int := shaD (kyd (hexVals s 32) 92 ++ shaD (kyd (hexVals s 32) 54 ++ b))
theorem hexVals_B {s : ByteArray} {k : Nat} (hg : hexGood s = true) (hk : 2 * k ≤ s.size) : isB (hexVals s k) := by
  intro x hx
  simp only [hexVals, List.mem_map, List.mem_range] at hx
  obtain ⟨j, hj, rfl⟩ := hx
  have h1 := (hexGood_iff s).1 hg (2 * j) (by omega)
  have h2 := (hexGood_iff s).1 hg (2 * j + 1) (by omega)
  have h3 : hv s (2 * j) ≤ 15 := (hx_bd _).2
  have h4 : hv s (2 * j + 1) ≤ 15 := (hx_bd _).2
  omega
theorem keyE_good {s : ByteArray} (h : keyE s = 0) : s.size = 64 ∧ hexE s = 0 := by
  unfold keyE at h
  split at h
  · exact ⟨by assumption, h⟩
  · omega
theorem isB_app {xs ys : List Int} (h : isB xs) (k : isB ys) : isB (xs ++ ys) := fun x hx => (List.mem_append.1 hx).elim (h x) (k x)

set_option maxHeartbeats 1000000 in
theorem tag_s (s : ByteArray) (n : Nat) (b : List Int) (hn : b.length = n) (hb : isB b) : Fn Try.prog 37 [.p (.v (.string s)), .p (.sl n 1 (bs b))] (bRes (macE s n)) (bNew (macE s n) 32 (macD s b)) := by
  refine fn_intro Try.func37 rfl (Nat.le_of_ble_eq_true rfl) fun w0 A => ?_
  refine awp_seq ?_
  refine awp_text (by kernel_rfl) ?_
  (refine r_pure (a_assign (r := .p _)) rfl rfl ?_)
  (refine r_pure (a_assign (r := .p _)) rfl rfl ?_)
  refine arun_nil ?_
  refine awp_seq (awp_seq ?_)
  refine awp_text (by kernel_rfl) ?_
  (refine r_pure (a_move (r := .p _)) rfl rfl ?_)
  (refine r_callV (fun n => 12 + 1000 * n) (hexCheck_s s) rfl rfl Try.func33 rfl rfl (by first | rfl | simp [AV.noSl, AV.noSlL, AObj.noSl, PV.isV, bs_noSl]) (by first | rfl | simp [AV.noSl, AV.noSlL, AObj.noSl, PV.isV, bs_noSl]) rfl rfl rfl (by first | exact trivial | exact ⟨rfl, trivial⟩ | exact ⟨rfl, rfl, trivial⟩) rfl rfl rfl ?_)
  (refine r_pure (a_assign (r := .p _)) rfl rfl ?_)
  refine arun_nil ?_
  refine awp_seq ?_
  refine awp_text (by kernel_rfl) ?_
  (refine r_pure (a_move (r := .p _)) rfl rfl ?_)
  (refine r_pure a_neq rfl rfl ?_)
  refine arun_nil ?_
  refine thn_n ?_
  refine awp_cond _ rfl (fun h => ?_) (fun h => ?_)
  · have h2 : keyE s ≠ 0 := by simpa using h
    obtain ⟨e1, e2⟩ := bRes_bad (show macE s n = keyE s by unfold macE; rw [if_neg h2]) h2 32 (macD s b)
    rw [e1, e2]
    refine awp_seq ?_
    refine awp_text (by kernel_rfl) ?_
    (refine r_pure (a_move (r := .p _)) rfl rfl ?_)
    (refine r_pure (a_assign (r := .p _)) rfl rfl ?_)
    (refine r_pure (a_assign (r := .p _)) rfl rfl ?_)
    refine arun_nil ?_
    refine awp_ret (thn_r ?_)
    refine ⟨(by first | exact .inl rfl | exact .inr rfl), _, (fun o => o), (.tmp _ _ _ _ rfl (.tmp _ _ _ _ rfl .nil)), ?_, rfl, ?_, rfl⟩
    · exact rfl
    · exact trivial
  have h2 : keyE s = 0 := by simpa using h
  clear h
  refine awp_skip (awp_seq (awp_seq ?_))
  refine awp_text (by kernel_rfl) ?_
  (refine r_pure (a_move (r := .p _)) rfl rfl ?_)
  (refine r_pure (a_lenS Try.underlying22) rfl rfl ?_)
  (refine r_pure a_gtr rfl rfl ?_)
  refine arun_nil ?_
  refine thn_n ?_
  refine awp_cond _ rfl (fun h => ?_) (fun h => ?_)
  · have h3 : 936 < n := by simp at h; omega
    obtain ⟨e1, e2⟩ := bRes_bad (show macE s n = 1 by unfold macE; rw [if_pos h2, if_pos h3]) (by omega) 32 (macD s b)
    rw [e1, e2]
    refine awp_seq ?_
    refine awp_text (by kernel_rfl) ?_
    (refine r_pure (a_assign (r := .p _)) rfl rfl ?_)
    (refine r_pure (a_assign (r := .p _)) rfl rfl ?_)
    refine arun_nil ?_
    refine awp_ret (thn_r ?_)
    refine ⟨(by first | exact .inl rfl | exact .inr rfl), _, (fun o => o), (.tmp _ _ _ _ rfl (.tmp _ _ _ _ rfl .nil)), ?_, rfl, ?_, rfl⟩
    · exact rfl
    · exact trivial
  have h3 : n ≤ 936 := by simp at h; omega
  clear h
  obtain ⟨e1, e2⟩ := bRes_good (show macE s n = 0 by unfold macE; rw [if_pos h2, if_neg (by omega)]) 32 (macD s b)
  rw [e1, e2]
  clear e1 e2
  obtain ⟨hsz, hE⟩ := keyE_good h2
  have hH := hexBytes_s s
  obtain ⟨e1, e2⟩ := hexRes_good hE
  rw [e1, e2, hsz] at hH
  clear e1 e2
  have hkl : (hexVals s 32).length = 32 := hexVals_len s 32
  have hc1 := keyed_s (hexVals s 32) 54 hkl
  have hc2 := keyed_s (hexVals s 32) 92 hkl
  have hl1 := kyd_len 54 hkl
  have hl2 := kyd_len 92 hkl
  have hb1 := kyd_B (hexVals s 32) 54
  have hb2 := kyd_B (hexVals s 32) 92
  unfold macD
  change Fn Try.prog 32 _ _ [(0, .row 5 1 32 (bs (hexVals s 32)))] at hH
  generalize hexVals s 32 = K at hH hkl hc1 hc2 hl1 hl2 hb1 hb2 ⊢
  generalize kyd K 54 = K1 at hc1 hl1 hb1 ⊢
  generalize kyd K 92 = K2 at hc2 hl2 hb2 ⊢
  have hs1 := sum_s (64 + n) (K1 ++ b) (by rw [List.length_append]; omega) (isB_app hb1 hb)
  obtain ⟨e1, e2⟩ := bRes_good (show padE (64 + n) = 0 by unfold padE; rw [if_neg (by omega)]) 32 (shaD (K1 ++ b))
  rw [e1, e2, ← bs_appd] at hs1
  clear e1 e2
  have hD := shaD_B (K1 ++ b)
  have hDl := shaD_len (K1 ++ b)
  generalize shaD (K1 ++ b) = D at hs1 hD hDl ⊢
  have hs2 := sum_s (64 + 32) (K2 ++ D) (by rw [List.length_append]; omega) (isB_app hb2 hD)
  obtain ⟨e1, e2⟩ := bRes_good (show padE (64 + 32) = 0 from rfl) 32 (shaD (K2 ++ D))
  rw [e1, e2, ← bs_appd] at hs2
  clear e1 e2
  generalize shaD (K2 ++ D) = E at hs2 ⊢
  refine awp_skip (awp_seq ?_)
  refine awp_text (by kernel_rfl) ?_
  (refine r_pure (a_move (r := .p _)) rfl rfl ?_)
  (refine r_callV (fun n => 21 + 1000 * n) (hH) rfl rfl Try.func32 rfl rfl (by first | rfl | simp [AV.noSl, AV.noSlL, AObj.noSl, PV.isV, bs_noSl]) (by first | rfl | simp [AV.noSl, AV.noSlL, AObj.noSl, PV.isV, bs_noSl]) rfl rfl rfl (by first | exact trivial | exact ⟨rfl, trivial⟩ | exact ⟨rfl, rfl, trivial⟩) rfl rfl rfl ?_)
  (refine r_pure (a_move (r := .tup _)) rfl rfl ?_)
  (refine r_pure (a_extract rfl) rfl rfl ?_)
  (refine r_pure (a_extract rfl) rfl rfl ?_)
  (refine r_pure (a_assign (r := .row _)) rfl rfl ?_)
  (refine r_pure (a_assign (r := .p _)) rfl rfl ?_)
  refine arun_nil ?_
  refine awp_seq ?_
  refine awp_text (by kernel_rfl) ?_
  (refine r_pure (a_move (r := .row _)) rfl rfl ?_)
  (refine r_callV (fun n => 26 + 1000 * n) (hc1) rfl rfl Try.func52 rfl rfl (by first | rfl | simp [AV.noSl, AV.noSlL, AObj.noSl, PV.isV, bs_noSl]) (by first | rfl | simp [AV.noSl, AV.noSlL, AObj.noSl, PV.isV, bs_noSl]) rfl rfl rfl (by first | exact trivial | exact ⟨rfl, trivial⟩ | exact ⟨rfl, rfl, trivial⟩) rfl rfl rfl ?_)
  (refine r_pure (a_move (r := .p _)) rfl rfl ?_)
  (refine r_run (a_append 28 Try.underlying22 eo5 (src_sl) (by simp only [maxLen]; omega) (by omega) rfl rfl) rfl rfl ⟨rfl, rfl, trivial⟩ ?_)
  (refine r_callV (fun n => 29 + 1000 * n) (hs1) rfl rfl Try.func34 rfl rfl (by first | rfl | simp [AV.noSl, AV.noSlL, AObj.noSl, PV.isV, bs_noSl]) (by first | rfl | simp [AV.noSl, AV.noSlL, AObj.noSl, PV.isV, bs_noSl]) rfl rfl rfl (by first | exact trivial | exact ⟨rfl, trivial⟩ | exact ⟨rfl, rfl, trivial⟩) rfl rfl rfl ?_)
  (refine r_pure (a_move (r := .tup _)) rfl rfl ?_)
  (refine r_pure (a_extract rfl) rfl rfl ?_)
  (refine r_pure (a_extract rfl) rfl rfl ?_)
  (refine r_pure (a_assign (r := .row _)) rfl rfl ?_)
  (refine r_pure (a_assign (r := .p _)) rfl rfl ?_)
  refine arun_nil ?_
  refine awp_seq ?_
  refine awp_text (by kernel_rfl) ?_
  (refine r_pure (a_move (r := .row _)) rfl rfl ?_)
  (refine r_callV (fun n => 33 + 1000 * n) (hc2) rfl rfl Try.func52 rfl rfl (by first | rfl | simp [AV.noSl, AV.noSlL, AObj.noSl, PV.isV, bs_noSl]) (by first | rfl | simp [AV.noSl, AV.noSlL, AObj.noSl, PV.isV, bs_noSl]) rfl rfl rfl (by first | exact trivial | exact ⟨rfl, trivial⟩ | exact ⟨rfl, rfl, trivial⟩) rfl rfl rfl ?_)
  (refine r_pure (a_move (r := .row _)) rfl rfl ?_)
  (refine r_run (a_append 35 Try.underlying22 eo5 (src_row) (by simp only [maxLen]; omega) (by omega) rfl rfl) rfl rfl ⟨rfl, rfl, rfl, trivial⟩ ?_)
  (refine r_callV (fun n => 36 + 1000 * n) (hs2) rfl rfl Try.func34 rfl rfl (by first | rfl | simp [AV.noSl, AV.noSlL, AObj.noSl, PV.isV, bs_noSl]) (by first | rfl | simp [AV.noSl, AV.noSlL, AObj.noSl, PV.isV, bs_noSl]) rfl rfl rfl (by first | exact trivial | exact ⟨rfl, trivial⟩ | exact ⟨rfl, rfl, trivial⟩) rfl rfl rfl ?_)
  (refine r_pure (a_extract rfl) rfl rfl ?_)
  (refine r_pure (a_extract rfl) rfl rfl ?_)
  (refine r_pure (a_assign (r := .row _)) rfl rfl ?_)
  (refine r_pure (a_assign (r := .p _)) rfl rfl ?_)
  refine arun_nil ?_
  refine awp_ret ?_
  refine ⟨(by first | exact .inl rfl | exact .inr rfl), _, (fun _ => 36), (.tmp _ _ _ _ rfl (.tmp _ _ _ _ rfl .nil)), ?_, rfl, ?_, rfl⟩
  · exact rfl
  · exact ⟨⟨rfl, rfl⟩, trivial⟩
end Go.Proofs.Ytmdkfhmmhiofbaa
