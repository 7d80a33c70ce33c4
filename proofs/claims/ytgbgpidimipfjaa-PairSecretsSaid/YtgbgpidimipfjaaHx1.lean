/- hex.Bytes, hex.Check and their references, over data. -/
import Derived.Test.YtgbgpidimipfjaaAbc
import Derived.Test.YtgbgpidimipfjaaTab
import Derived.Test.YtgbgpidimipfjaaShelf
namespace Go.Proofs.Ytgbgpidimipfjaa
open Go.RowKit Go.Sort
set_option linter.unusedVariables false
set_option linter.unusedSimpArgs false
set_option maxRecDepth 100000

def DIG : ByteArray := ⟨#[48, 49, 50, 51, 52, 53, 54, 55, 56, 57, 97, 98, 99, 100, 101, 102]⟩
/-- the place of a byte among the digits -/
def hx (x : Int) : Int := Lib.indexByte DIG.data.toList x.toNat.toUInt8
theorem ib_s (x : Int) : Fn Try.prog 84 [.p (.v (.string ⟨#[48, 49, 50, 51, 52, 53, 54, 55, 56, 57, 97, 98, 99, 100, 101, 102]⟩)), .p (.v (.int .u8 x))] (.p (.v (.int .i64 (hx x)))) [] :=
  fn_plain [.string ⟨#[48, 49, 50, 51, 52, 53, 54, 55, 56, 57, 97, 98, 99, 100, 101, 102]⟩, .int .u8 x] rfl fun w => Try.strings_IndexByte _ x w
theorem hx_fin : ∀ n : _root_.Fin 256, -1 ≤ Lib.indexByte DIG.data.toList n.val.toUInt8 ∧ Lib.indexByte DIG.data.toList n.val.toUInt8 ≤ 15 := by decide +kernel
theorem hx_bd (x : Int) : -1 ≤ hx x ∧ hx x ≤ 15 := by
  have h := hx_fin ⟨x.toNat % 256, Nat.mod_lt _ (by decide)⟩
  have e : (x.toNat % 256).toUInt8 = x.toNat.toUInt8 := by
    apply UInt8.toNat_inj.1
    show (UInt8.ofNat _).toNat = (UInt8.ofNat _).toNat
    simp only [UInt8.toNat_ofNat']
    omega
  unfold hx
  simp only [e] at h
  exact h
/-- the number of the digit at a place of a string -/
def hv (s : ByteArray) (i : Nat) : Int := hx (sAt s i)
def hexVals (s : ByteArray) (k : Nat) : List Int := (List.range k).map fun j => 16 * hv s (2 * j) + hv s (2 * j + 1)
theorem hexVals_succ (s : ByteArray) (k : Nat) : hexVals s (k + 1) = hexVals s k ++ [16 * hv s (2 * k) + hv s (2 * k + 1)] := by simp [hexVals, List.range_succ]
theorem hexVals_len (s : ByteArray) (k : Nat) : (hexVals s k).length = k := by simp [hexVals]
def hexGood (s : ByteArray) : Bool := (List.range s.size).all fun i => decide (0 ≤ hv s i)
theorem hexGood_iff (s : ByteArray) : hexGood s = true ↔ ∀ i, i < s.size → 0 ≤ hv s i := by simp [hexGood]
def hexE (s : ByteArray) : Int := if 2000 < s.size then 1 else if s.size % 2 = 0 then (if hexGood s = true then 0 else 3) else 3
def hexRes (s : ByteArray) : AV := if hexE s = 0 then .tup [.row 0, .p (.v (.int .i64 0))] else .tup [.p (.v (.slice none 0 0)), .p (.v (.int .i64 (hexE s)))]
def hexNew (s : ByteArray) : List (Nat × AObj) := if hexE s = 0 then [(0, .row 5 1 (s.size / 2) (bs (hexVals s (s.size / 2))))] else []
theorem hexRes_bad {s : ByteArray} {e : Int} (h : hexE s = e) (he : e ≠ 0) : hexRes s = .tup [.p (.v (.slice none 0 0)), .p (.v (.int .i64 e))] ∧ hexNew s = [] := by
  unfold hexRes hexNew
  rw [h, if_neg he, if_neg he]; exact ⟨rfl, rfl⟩
theorem hexRes_good {s : ByteArray} (h : hexE s = 0) : hexRes s = .tup [.row 0, .p (.v (.int .i64 0))] ∧ hexNew s = [(0, .row 5 1 (s.size / 2) (bs (hexVals s (s.size / 2))))] := by
  unfold hexRes hexNew
  rw [h, if_pos rfl, if_pos rfl]; exact ⟨rfl, rfl⟩

theorem hexBytes_s (s : ByteArray) : Fn Try.prog 65 [.p (.v (.string s))] (hexRes s) (hexNew s) := by
  refine fn_intro Try.func65 rfl (Nat.le_of_ble_eq_true rfl) fun w0 A => ?_
  refine awp_seq ?_
  refine awp_text (by kernel_rfl) ?_
  (refine r_pure (a_assign (r := .p _)) rfl rfl ?_)
  (refine r_pure (a_assign (r := .p _)) rfl rfl ?_)
  refine arun_nil ?_
  refine awp_seq (awp_seq ?_)
  refine awp_text (by kernel_rfl) ?_
  (refine r_pure (a_move (r := .p _)) rfl rfl ?_)
  (refine r_pure (a_lenStr Try.underlying9) rfl rfl ?_)
  (refine r_pure a_gtr rfl rfl ?_)
  refine arun_nil ?_
  refine thn_n ?_
  refine awp_cond _ rfl (fun h => ?_) (fun h => ?_)
  · have h2 : 2000 < s.size := by simp at h; omega
    refine awp_seq ?_
    refine awp_text (by kernel_rfl) ?_
    (refine r_pure (a_assign (r := .p _)) rfl rfl ?_)
    (refine r_pure (a_assign (r := .p _)) rfl rfl ?_)
    refine arun_nil ?_
    refine awp_ret (thn_r ?_)
    obtain ⟨e1, e2⟩ := hexRes_bad (s := s) (e := 1) (by unfold hexE; rw [if_pos h2]) (by omega)
    rw [e1, e2]
    refine ⟨(by first | exact .inl rfl | exact .inr rfl), _, (fun o => o), (.tmp _ _ _ _ rfl (.tmp _ _ _ _ rfl .nil)), ?_, rfl, ?_, rfl⟩
    · exact rfl
    · exact trivial
  have hsz : s.size ≤ 2000 := by have := of_decide_eq_false h; omega
  clear h
  refine awp_skip (awp_seq (awp_seq ?_))
  refine awp_text (by kernel_rfl) ?_
  (refine r_pure (a_move (r := .p _)) rfl rfl ?_)
  (refine r_pure (a_lenStr Try.underlying9) rfl rfl ?_)
  (refine r_pure (a_rem (by omega) (by first | exact IntWalk.rem_in _ _ (by omega) | rfl)) rfl rfl ?_)
  (refine r_pure a_neq rfl rfl ?_)
  refine arun_nil ?_
  refine thn_n ?_
  refine awp_cond _ rfl (fun h => ?_) (fun h => ?_)
  · have h2 : ¬ s.size % 2 = 0 := by simp at h; omega
    refine awp_seq ?_
    refine awp_text (by kernel_rfl) ?_
    (refine r_pure (a_assign (r := .p _)) rfl rfl ?_)
    (refine r_pure (a_assign (r := .p _)) rfl rfl ?_)
    refine arun_nil ?_
    refine awp_ret (thn_r ?_)
    obtain ⟨e1, e2⟩ := hexRes_bad (s := s) (e := 3) (by unfold hexE; rw [if_neg (by omega), if_neg h2]) (by omega)
    rw [e1, e2]
    refine ⟨(by first | exact .inl rfl | exact .inr rfl), _, (fun o => o), (.tmp _ _ _ _ rfl (.tmp _ _ _ _ rfl .nil)), ?_, rfl, ?_, rfl⟩
    · exact rfl
    · exact trivial
  have hev : s.size % 2 = 0 := by simp at h; omega
  clear h
  refine awp_skip (awp_seq ?_)
  refine awp_text (by kernel_rfl) ?_
  (refine r_pure (a_move (r := .p _)) rfl rfl ?_)
  (refine r_pure (a_lenStr Try.underlying9) rfl rfl ?_)
  (refine r_pure (a_quo (by omega) (by first | exact IntWalk.i64_quo _ _ (by omega) | rfl)) rfl rfl ?_)
  (refine r_run (a_make0 18 Try.underlying22 eo5 (by omega) (by omega) (by simp only [maxLen]; omega)) rfl rfl ⟨rfl, trivial⟩ ?_)
  (refine r_pure (a_assign (r := .row _)) rfl rfl ?_)
  refine arun_nil ?_
  refine awp_seq (awp_seq ?_)
  refine awp_text (by kernel_rfl) ?_
  (refine r_pure (a_assign (r := .p _)) rfl rfl ?_)
  refine arun_nil ?_
  refine awp_block ?_
  refine awp_loopR (fun m st => ∃ k : Nat, m + k = s.size / 2 ∧ (∀ i, i < 2 * k → 0 ≤ hv s i) ∧ st = St.of [(0, .p (.v (.string s))), (4, .row 4), (5, .p (.v (.int .i64 (2 * k))))] [(4, .row 5 1 k (bs (hexVals s k)))]) (s.size / 2) ?_ ?_
  · refine ⟨_, re_of (fun _ => 18) _ _ ?_ ?_ rfl, 0, by omega, fun i hi => by omega, rfl⟩
    · (repeat (first | exact trivial | (refine ⟨⟨(by first | rfl | (simp; done) | (simp; omega)), rfl⟩, ?_⟩)))
    · exact ⟨⟨rfl, rfl⟩, trivial⟩
  rintro m st ⟨k, hk, hg, rfl⟩
  refine awp_seq (awp_seq ?_)
  refine awp_text (by kernel_rfl) ?_
  (refine r_pure (a_move (r := .p _)) rfl rfl ?_)
  (refine r_pure (a_move (r := .p _)) rfl rfl ?_)
  (refine r_pure (a_lenStr Try.underlying9) rfl rfl ?_)
  (refine r_pure a_lss rfl rfl ?_)
  refine arun_nil ?_
  refine thn_n ?_
  refine awp_cond _ rfl (fun h => ?_) (fun h => ?_)
  · have hlt : 2 * k < s.size := by simp at h; omega
    clear h
    have g1 := sAt_get (s := s) (i := 2 * k) hlt
    have g2 := sAt_get (s := s) (i := 2 * k + 1) (by omega)
    refine awp_skip (awp_seq (awp_block (awp_seq ?_)))
    refine awp_draw 4 (by kernel_rfl) ?_
    (refine r_pure (a_move (r := .p _)) rfl rfl ?_)
    (refine r_pure (a_move (r := .p _)) rfl rfl ?_)
    (refine r_pure (a_indexStr Try.underlying9 (by omega) (by exact g1)) rfl rfl ?_)
    (refine r_callV (fun n => 28 + 1000 * n) (ib_s _) rfl rfl Try.func84 rfl rfl (by first | rfl | simp [AV.noSl, AV.noSlL, AObj.noSl, PV.isV, bs_noSl]) (by first | rfl | simp [AV.noSl, AV.noSlL, AObj.noSl, PV.isV, bs_noSl]) rfl rfl rfl (by first | exact trivial | exact ⟨rfl, trivial⟩ | exact ⟨rfl, rfl, trivial⟩) rfl rfl rfl ?_)
    (refine r_pure (a_move (r := .p _)) rfl rfl ?_)
    (refine r_pure (a_move (r := .p _)) rfl rfl ?_)
    (refine r_pure (a_add (by first | exact IntWalk.i64_in _ (by omega) | rfl)) rfl rfl ?_)
    (refine r_pure (a_indexStr Try.underlying9 (by omega) (by exact g2)) rfl rfl ?_)
    (refine r_callV (fun n => 33 + 1000 * n) (ib_s _) rfl rfl Try.func84 rfl rfl (by first | rfl | simp [AV.noSl, AV.noSlL, AObj.noSl, PV.isV, bs_noSl]) (by first | rfl | simp [AV.noSl, AV.noSlL, AObj.noSl, PV.isV, bs_noSl]) rfl rfl rfl (by first | exact trivial | exact ⟨rfl, trivial⟩ | exact ⟨rfl, rfl, trivial⟩) rfl rfl rfl ?_)
    (refine r_pure (a_assign (r := .p _)) rfl rfl ?_)
    (refine r_pure (a_assign (r := .p _)) rfl rfl ?_)
    refine arun_nil ⟨by kernel_rfl, ?_⟩
    refine awp_seq (awp_seq ?_)
    refine awp_text (by kernel_rfl) ?_
    (refine r_pure (a_move (r := .p _)) rfl rfl ?_)
    (refine r_pure a_lss rfl rfl ?_)
    (refine r_pure (a_move (r := .p _)) rfl rfl ?_)
    (refine r_mb2 _ rfl rfl (by (repeat (first | exact stripOK_nil | refine stripOK_mb id ?_ | refine stripOK_p ?_ | refine stripOK_ref ?_ | refine stripOK_row ?_ | refine stripOK_ptr ?_ | refine stripOK_agg ?_ | refine stripOK_mb (by simp_all) ?_))) (fun hb => (a_move (r := .p _))) (fun _ => trivial) ?_)
    (refine r_mb2 _ rfl rfl (by (repeat (first | exact stripOK_nil | refine stripOK_mb id ?_ | refine stripOK_p ?_ | refine stripOK_ref ?_ | refine stripOK_row ?_ | refine stripOK_ptr ?_ | refine stripOK_agg ?_ | refine stripOK_mb (by simp_all) ?_))) (fun hb => a_lss) (fun _ => trivial) ?_)
    (refine r_pure (a_or (by first | exact id | simp)) rfl rfl ?_)
    refine arun_nil ?_
    refine thn_n ?_
    have b1 : -1 ≤ hv s (2 * k) ∧ hv s (2 * k) ≤ 15 := hx_bd _
    have b2 : -1 ≤ hv s (2 * k + 1) ∧ hv s (2 * k + 1) ≤ 15 := hx_bd _
    refine awp_cond _ rfl (fun h => ?_) (fun h => ?_)
    · have h2 : hv s (2 * k) < 0 ∨ hv s (2 * k + 1) < 0 := by simpa [hv] using h
      refine awp_seq ?_
      refine awp_text (by kernel_rfl) ?_
      (refine r_pure (a_assign (r := .p _)) rfl rfl ?_)
      (refine r_pure (a_assign (r := .p _)) rfl rfl ?_)
      refine arun_nil ?_
      refine awp_ret (thn_r (inb_r (thn_r (thn_r (inb_r (thn_r ?_))))))
      have hb : ¬ hexGood s = true := fun hh => by
        have h3 := (hexGood_iff s).1 hh
        have h4 := h3 (2 * k) hlt
        have h5 := h3 (2 * k + 1) (by omega)
        omega
      obtain ⟨e1, e2⟩ := hexRes_bad (s := s) (e := 3) (by unfold hexE; rw [if_neg (by omega), if_pos hev, if_neg hb]) (by omega)
      rw [e1, e2]
      refine ⟨(by first | exact .inl rfl | exact .inr rfl), _, (fun o => o), (.tmp _ _ _ _ rfl (.tmp _ _ _ _ rfl .nil)), ?_, rfl, ?_, rfl⟩
      · exact rfl
      · exact trivial
    · have h2 : 0 ≤ hv s (2 * k) ∧ 0 ≤ hv s (2 * k + 1) := by simpa [hv] using h
      change 0 ≤ hx (sAt s (2 * k)) ∧ 0 ≤ hx (sAt s (2 * k + 1)) at h2
      change -1 ≤ hx (sAt s (2 * k)) ∧ hx (sAt s (2 * k)) ≤ 15 at b1
      change -1 ≤ hx (sAt s (2 * k + 1)) ∧ hx (sAt s (2 * k + 1)) ≤ 15 at b2
      refine awp_skip (thn_n ?_)
      refine awp_text (by kernel_rfl) ?_
      (refine r_pure (a_move (r := .row _)) rfl rfl ?_)
      (refine r_pure (a_move (r := .p _)) rfl rfl ?_)
      (refine r_pure (a_mul (by first | exact IntWalk.i64_in _ (by omega) | rfl)) rfl rfl ?_)
      (refine r_pure (a_move (r := .p _)) rfl rfl ?_)
      (refine r_pure (a_add (by first | exact IntWalk.i64_in _ (by omega) | rfl)) rfl rfl ?_)
      (refine r_pure (a_conv Try.underlying3 Try.underlying5 (by first | exact IntWalk.u8_in _ (by omega) | rfl)) rfl rfl ?_)
      (refine r_run (a_buildSlice 46 Try.underlying22 sz5 zc5 (Nat.le_of_ble_eq_true rfl) (Nat.le_of_ble_eq_true rfl) rfl rfl rfl rfl (Nat.le_of_ble_eq_true rfl)) rfl rfl ⟨rfl, trivial⟩ ?_)
      (refine r_run (a_append 47 Try.underlying22 eo5 (src_row) (by simp only [maxLen]; omega) (by omega) rfl rfl) rfl rfl ⟨rfl, rfl, rfl, trivial⟩ ?_)
      (refine r_pure (a_assign (r := .row _)) rfl rfl ?_)
      refine arun_nil ?_
      refine inb_n (thn_n ?_)
      refine awp_text (by kernel_rfl) ?_
      (refine r_pure (a_move (r := .p _)) rfl rfl ?_)
      (refine r_pure (a_add (by first | exact IntWalk.i64_in _ (by omega) | rfl)) rfl rfl ?_)
      (refine r_pure (a_assign (r := .p _)) rfl rfl ?_)
      refine arun_nil ?_
      refine thn_n ?_
      refine ⟨m - 1, by omega, _, re_of (fun _ => 47) _ _ ?_ ?_ rfl, k + 1, by omega, fun i hi => ?_, rfl⟩
      · (repeat (first | exact trivial | (refine ⟨⟨(by first | rfl | (simp; done) | (simp; omega)), rfl⟩, ?_⟩)))
      · rw [hexVals_succ]; simp only [bs, List.map_append]
        exact ⟨⟨rfl, rfl⟩, trivial⟩
      · by_cases e1 : i = 2 * k
        · subst e1; exact h2.1
        · by_cases e2 : i = 2 * k + 1
          · subst e2; exact h2.2
          · exact hg i (by omega)
  · have hge : s.size ≤ 2 * k := by simp at h; omega
    clear h
    have hb : hexGood s = true := (hexGood_iff s).2 fun i hi => hg i (by omega)
    obtain ⟨e1, e2⟩ := hexRes_good (s := s) (by unfold hexE; rw [if_neg (by omega), if_pos hev, if_pos hb])
    obtain rfl : k = s.size / 2 := by omega
    refine awp_exit (awp_seq ?_)
    refine awp_text (by kernel_rfl) ?_
    (refine r_pure (a_move (r := .row _)) rfl rfl ?_)
    (refine r_pure (a_assign (r := .row _)) rfl rfl ?_)
    (refine r_pure (a_assign (r := .p _)) rfl rfl ?_)
    refine arun_nil ?_
    refine awp_ret ?_
    rw [e1, e2]
    refine ⟨(by first | exact .inl rfl | exact .inr rfl), _, (fun _ => 4), (.tmp _ _ _ _ rfl (.tmp _ _ _ _ rfl .nil)), ?_, rfl, ?_, rfl⟩
    · exact rfl
    · exact ⟨⟨rfl, rfl⟩, trivial⟩

def keyE (s : ByteArray) : Int := if s.size = 64 then hexE s else 1
theorem hexCheck_s (s : ByteArray) : Fn Try.prog 60 [.p (.v (.string s))] (.p (.v (.int .i64 (keyE s)))) [] := by
  refine fn_intro Try.func60 rfl (Nat.le_of_ble_eq_true rfl) fun w0 A => ?_
  refine awp_seq ?_
  refine awp_text (by kernel_rfl) ?_
  (refine r_pure (a_assign (r := .p _)) rfl rfl ?_)
  refine arun_nil ?_
  refine awp_seq (awp_seq ?_)
  refine awp_text (by kernel_rfl) ?_
  (refine r_pure (a_move (r := .p _)) rfl rfl ?_)
  (refine r_pure (a_lenStr Try.underlying9) rfl rfl ?_)
  (refine r_pure a_neq rfl rfl ?_)
  refine arun_nil ?_
  refine thn_n ?_
  refine awp_cond _ rfl (fun h => ?_) (fun h => ?_)
  · have h2 : ¬ s.size = 64 := by simp at h; omega
    refine awp_seq ?_
    refine awp_text (by kernel_rfl) ?_
    (refine r_pure (a_assign (r := .p _)) rfl rfl ?_)
    refine arun_nil ?_
    refine awp_ret (thn_r ?_)
    rw [show keyE s = 1 by unfold keyE; rw [if_neg h2]]
    refine ⟨(by first | exact .inl rfl | exact .inr rfl), _, (fun o => o), (.tmp _ _ _ _ rfl .nil), ?_, rfl, ?_, rfl⟩
    · exact rfl
    · exact trivial
  · have h2 : s.size = 64 := by simp at h; omega
    rw [show keyE s = hexE s by unfold keyE; rw [if_pos h2]]
    by_cases he : hexE s = 0
    · obtain ⟨e1, e2⟩ := hexRes_good he
      have hc := hexBytes_s s
      rw [e1, e2] at hc
      refine awp_skip (awp_seq ?_)
      refine awp_text (by kernel_rfl) ?_
      (refine r_pure (a_move (r := .p _)) rfl rfl ?_)
      (refine r_callS (fun n => 10 + 1000 * n) (hc) rfl rfl Try.func65 rfl rfl (by first | rfl | simp [AV.okInL, AV.okIn, okInL_map]) rfl rfl rfl (by first | exact trivial | exact ⟨rfl, trivial⟩ | exact ⟨rfl, rfl, trivial⟩) rfl rfl rfl ?_)
      (refine r_pure (a_move (r := .tup _)) rfl rfl ?_)
      (refine r_pure (a_extract rfl) rfl rfl ?_)
      (refine r_pure (a_extract rfl) rfl rfl ?_)
      (first | refine r_pure (a_assign (r := .row _)) rfl rfl ?_ | refine r_pure (a_assign (r := .p _)) rfl rfl ?_)
      (refine r_pure (a_assign (r := .p _)) rfl rfl ?_)
      refine arun_nil ?_
      refine awp_seq ?_
      refine awp_text (by kernel_rfl) ?_
      (refine r_pure (a_move (r := .p _)) rfl rfl ?_)
      (refine r_pure (a_assign (r := .p _)) rfl rfl ?_)
      refine arun_nil ?_
      refine awp_ret ?_
      rw [he]
      refine ⟨(by first | exact .inl rfl | exact .inr rfl), _, (fun o => o), (.tmp _ _ _ _ rfl .nil), ?_, rfl, ?_, rfl⟩
      · exact rfl
      · exact trivial
    · obtain ⟨e1, e2⟩ := hexRes_bad (e := hexE s) rfl he
      have hc := hexBytes_s s
      rw [e1, e2] at hc
      refine awp_skip (awp_seq ?_)
      refine awp_text (by kernel_rfl) ?_
      (refine r_pure (a_move (r := .p _)) rfl rfl ?_)
      (refine r_callS (fun n => 10 + 1000 * n) (hc) rfl rfl Try.func65 rfl rfl (by first | rfl | simp [AV.okInL, AV.okIn, okInL_map]) rfl rfl rfl (by first | exact trivial | exact ⟨rfl, trivial⟩ | exact ⟨rfl, rfl, trivial⟩) rfl rfl rfl ?_)
      (refine r_pure (a_move (r := .tup _)) rfl rfl ?_)
      (refine r_pure (a_extract rfl) rfl rfl ?_)
      (refine r_pure (a_extract rfl) rfl rfl ?_)
      (first | refine r_pure (a_assign (r := .row _)) rfl rfl ?_ | refine r_pure (a_assign (r := .p _)) rfl rfl ?_)
      (refine r_pure (a_assign (r := .p _)) rfl rfl ?_)
      refine arun_nil ?_
      refine awp_seq ?_
      refine awp_text (by kernel_rfl) ?_
      (refine r_pure (a_move (r := .p _)) rfl rfl ?_)
      (refine r_pure (a_assign (r := .p _)) rfl rfl ?_)
      refine arun_nil ?_
      refine awp_ret ?_
      refine ⟨(by first | exact .inl rfl | exact .inr rfl), _, (fun o => o), (.tmp _ _ _ _ rfl .nil), ?_, rfl, ?_, rfl⟩
      · exact rfl
      · exact trivial
end Go.Proofs.Ytgbgpidimipfjaa
