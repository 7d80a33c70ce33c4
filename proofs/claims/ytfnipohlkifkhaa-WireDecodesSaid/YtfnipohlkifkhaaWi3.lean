/- The reference's little, WireFault, WireBytes, over data. -/
import Derived.Test.YtfnipohlkifkhaaWi2
import Derived.Test.YtfnipohlkifkhaaSx
namespace Go.Proofs.Ytfnipohlkifkhaa
open Go.RowKit Go.Sort
set_option linter.unusedVariables false
set_option linter.unusedSimpArgs false
set_option maxRecDepth 100000

theorem str_app' (xs ys : List Int) : strOfNums xs ++ strOfNums ys = strOfNums (xs ++ ys) := by
  apply ByteArray.ext
  simp [strOfNums, ByteArray.data_append]
theorem be_at (w n k : Nat) (hk : k < w) : ((bs (beN w n)).drop (w - 1 - k)).take (1 * 1) = bs [((n / 256 ^ k % 256 : Nat) : Int)] := by
  have hl : w - 1 - k < (beN w n).length := by rw [beN_len]; omega
  have hb : (beN w n)[w - 1 - k] = ((n / 256 ^ k % 256 : Nat) : Int) := by
    simp only [beN, List.getElem_map, List.getElem_range]
    rw [show 8 * (w - 1 - (w - 1 - k)) = 8 * k by omega, Nat.pow_mul]
  rw [show (bs (beN w n)).drop (w - 1 - k) = bs ((beN w n).drop (w - 1 - k)) by simp [bs]]
  rw [List.drop_eq_getElem_cons hl, hb]
  rfl

set_option maxHeartbeats 1000000 in
theorem little_s (w n : Nat) (hw : w ≤ 8) (hn : n < 9223372036854775808) : Fn Try.prog 94 [.p (.v (.int .i64 n)), .p (.v (.int .i64 w))] (.p (.v (.string (strOfNums (leN w n))))) [] := by
  have hB := bigN_s w n hw hn
  refine fn_intro Try.func94 rfl (Nat.le_of_ble_eq_true rfl) fun w0 A => ?_
  refine awp_seq ?_
  refine awp_text (by kernel_rfl) ?_
  (refine r_pure (a_assign (r := .p _)) rfl rfl ?_)
  refine arun_nil ?_
  refine awp_seq ?_
  refine awp_text (by kernel_rfl) ?_
  (refine r_pure (a_move (r := .p _)) rfl rfl ?_)
  (refine r_pure (a_move (r := .p _)) rfl rfl ?_)
  (refine r_callV (fun n => 10 + 1000 * n) (hB) rfl rfl Try.func109 rfl rfl (by first | rfl | simp [AV.noSl, AV.noSlL, AObj.noSl, PV.isV, bs_noSl]) (by first | rfl | simp [AV.noSl, AV.noSlL, AObj.noSl, PV.isV, bs_noSl]) rfl rfl rfl (by first | exact trivial | exact ⟨rfl, trivial⟩ | exact ⟨rfl, rfl, trivial⟩) rfl rfl rfl ?_)
  (refine r_pure (a_assign (r := .row _)) rfl rfl ?_)
  refine arun_nil ?_
  refine awp_seq ?_
  refine awp_text (by kernel_rfl) ?_
  (refine r_pure (a_assign (r := .p _)) rfl rfl ?_)
  refine arun_nil ?_
  refine awp_seq (awp_seq ?_)
  refine awp_text (by kernel_rfl) ?_
  (refine r_pure (a_move (r := .p _)) rfl rfl ?_)
  (refine r_pure (a_sub (by first | exact IntWalk.i64_in _ (by omega) | rfl)) rfl rfl ?_)
  (refine r_pure (a_assign (r := .p _)) rfl rfl ?_)
  refine arun_nil ?_
  refine awp_block ?_
  refine awp_loopR (fun m st => ∃ k : Nat, m + k = w ∧ st = St.of [(5, .row 5), (6, .p (.v (.string (strOfNums (leN k n))))), (7, .p (.v (.int .i64 ((w : Int) - 1 - k))))] [(5, .row 5 1 w (bs (beN w n)))]) w ?_ ?_
  · refine ⟨_, re_of (fun _ => 10) _ _ ?_ ?_ rfl, 0, by omega, rfl⟩
    · refine ⟨⟨rfl, rfl⟩, ⟨rfl, rfl⟩, ⟨?_, rfl⟩, trivial⟩
      show AV.p (.v (.int .i64 ((w : Int) - 1))) = AV.p (.v (.int .i64 ((w : Int) - 1 - ((0 : Nat) : Int))))
      congr 3; omega
    · exact ⟨⟨rfl, rfl⟩, trivial⟩
  rintro m st ⟨k, hk, rfl⟩
  refine awp_seq (awp_seq ?_)
  refine awp_text (by kernel_rfl) ?_
  (refine r_pure (a_move (r := .p _)) rfl rfl ?_)
  (refine r_pure a_geq rfl rfl ?_)
  refine arun_nil ?_
  refine thn_n ?_
  refine awp_cond _ rfl (fun h => ?_) (fun h => ?_)
  · have hlt : k < w := by simp at h; omega
    clear h
    have hsub := be_at w n k hlt
    have hl : (bs (beN w n)).length = w := by rw [bs_length, beN_len]
    have hc : strOfNums (leN k n) ++ strOfNums [((n / 256 ^ k % 256 : Nat) : Int)] = strOfNums (leN (k + 1) n) := by rw [str_app', leN_succ]
    have z1 : (strOfNums (leN k n)).size = k := by rw [nums_size, leN_len]
    have z2 : (strOfNums [((n / 256 ^ k % 256 : Nat) : Int)]).size = 1 := by rw [nums_size]; rfl
    refine awp_skip (awp_seq (awp_block ?_))
    refine awp_text (by kernel_rfl) ?_
    (refine r_pure (a_move (r := .p _)) rfl rfl ?_)
    (refine r_pure (a_move (r := .row _)) rfl rfl ?_)
    (refine r_pure (a_move (r := .p _)) rfl rfl ?_)
    (refine r_pure (a_move (r := .p _)) rfl rfl ?_)
    (refine r_pure (a_add (by first | exact IntWalk.i64_in _ (by omega) | rfl)) rfl rfl ?_)
    (refine r_run (a_sliceR (L := (some (_, _))) (H := (some (_, _))) Try.underlying42 sz5 ⟨by omega, (show _ = w - 1 - k by omega)⟩ ⟨by omega, (show _ = w - k by omega)⟩ (by omega) (by omega) (show _ = 1 by omega) (show _ = w - 1 - k by omega)) rfl rfl ⟨rfl, trivial⟩ ?_)
    refine r_run (a_b2s (xs := [((n / 256 ^ k % 256 : Nat) : Int)]) Try.underlying42 Try.underlying5 Try.underlying9 (src_psl (by omega) hsub) rfl rfl) rfl rfl ⟨rfl, trivial⟩ ?_
    (refine r_pure (a_cat (by omega) hc) rfl rfl ?_)
    (refine r_pure (a_assign (r := .p _)) rfl rfl ?_)
    refine arun_nil ?_
    refine inb_n (thn_n ?_)
    refine awp_text (by kernel_rfl) ?_
    (refine r_pure (a_move (r := .p _)) rfl rfl ?_)
    (refine r_pure (a_sub (by first | exact IntWalk.i64_in _ (by omega) | rfl)) rfl rfl ?_)
    (refine r_pure (a_assign (r := .p _)) rfl rfl ?_)
    refine arun_nil ?_
    refine thn_n ?_
    refine ⟨m - 1, by omega, _, re_of id _ _ ?_ ?_ rfl, k + 1, by omega, rfl⟩
    · refine ⟨⟨rfl, rfl⟩, ⟨rfl, rfl⟩, ⟨?_, rfl⟩, trivial⟩
      show AV.p (.v (.int .i64 ((w : Int) - 1 - (k : Int) - 1))) = AV.p (.v (.int .i64 ((w : Int) - 1 - ((k + 1 : Nat) : Int))))
      congr 3; omega
    · exact ⟨⟨rfl, rfl⟩, trivial⟩
  have hge : k = w := by simp at h; omega
  clear h
  subst hge
  refine awp_exit (awp_seq ?_)
  refine awp_text (by kernel_rfl) ?_
  (refine r_pure (a_move (r := .p _)) rfl rfl ?_)
  (refine r_pure (a_assign (r := .p _)) rfl rfl ?_)
  refine arun_nil ?_
  refine awp_ret ?_
  refine ⟨(by first | exact .inl rfl | exact .inr rfl), _, (fun o => o), (.tmp _ _ _ _ rfl .nil), ?_, rfl, ?_, rfl⟩
  · exact rfl
  · exact trivial

def hasOf (t : Int) : ByteArray := if t = 1 then ⟨#[115]⟩ else if t = 2 then ⟨#[115, 114]⟩ else ⟨#[114, 99]⟩
def wN (m : MS) (i : Nat) : Int := if i = 0 then m.s else if i = 1 then m.r else m.c
def wC (i : Nat) : UInt8 := if i = 0 then 115 else if i = 1 then 114 else 99
def wH (x : SH) (i : Nat) : Bool := if i = 0 then x.s else if i = 1 then x.r else x.c
def wL (m : MS) : List PV := [.v (.string ⟨#[115]⟩), .v (.int .i64 m.s), .v (.string ⟨#[114]⟩), .v (.int .i64 m.r), .v (.string ⟨#[99]⟩), .v (.int .i64 m.c)]
theorem wL_at (m : MS) (i : Nat) (h : i < 3) : ((wL m).drop (i * 2)).take 2 = [.v (.string ⟨#[wC i]⟩), .v (.int .i64 (wN m i))] := by
  match i, h with
  | 0, _ => rfl
  | 1, _ => rfl
  | 2, _ => rfl
theorem has_at (t : Int) (i : Nat) (h : i < 3) (ht : t = 1 ∨ t = 2 ∨ t = 4) : decide (0 ≤ ixB (hasOf t) (wC i)) = wH (ofS t) i := by
  rcases ht with rfl | rfl | rfl
  all_goals
    match i, h with
    | 0, _ => decide
    | 1, _ => decide
    | 2, _ => decide

set_option maxHeartbeats 4000000 in
theorem refWFault_s (m : MS) (hn : m.n ≤ 140737488355328) : Fn Try.prog 47 [.agg m.cells] (.p (.v (.int .i64 (wE m)))) [] := by
  refine fn_intro Try.func47 rfl (Nat.le_of_ble_eq_true rfl) fun w0 A => ?_
  refine awp_seq ?_
  refine awp_text (by kernel_rfl) ?_
  (refine r_run (a_box (X := .agg _) 1 rfl) rfl rfl ⟨rfl, trivial⟩ ?_)
  (refine r_pure (a_assign (r := .p _)) rfl rfl ?_)
  refine arun_nil ?_
  refine awp_seq ?_
  refine awp_text (by kernel_rfl) ?_
  (refine r_pure (a_assign (r := .p _)) rfl rfl ?_)
  (refine r_pure (a_assign (r := .p _)) rfl rfl ?_)
  refine arun_nil ?_
  refine awp_seq ?_
  refine awp_text (by kernel_rfl) ?_
  (refine r_pure (a_assign (r := .p _)) rfl rfl ?_)
  refine arun_nil ?_
  refine awp_seq (awp_seq ?_)
  refine awp_text (by kernel_rfl) ?_
  (refine r_pure (b_fieldAddr fi66_0 rfl) rfl rfl ?_)
  (refine r_run (a_load1 Try.underlying3 rfl (by first | rfl | assumption)) rfl rfl ⟨rfl, trivial⟩ ?_)
  refine arun_nil ?_
  refine thn_n ?_
  (repeat (first | refine awp_seq ?_))
  by_cases ht : m.t = 1 ∨ m.t = 2 ∨ m.t = 4
  rotate_left
  · have hE : wE m = 2 := by
      have h0 : ofS m.t = ⟨0, 0, false, false, false, false⟩ := by
        unfold ofS
        rw [if_neg (by omega), if_neg (by omega), if_neg (by omega)]
      unfold wE
      rw [h0]
      rfl
    rw [hE]
    refine awp_block (awp_seq ?_)
    refine awp_text (by kernel_rfl) ?_
    (refine r_pure a_eql rfl rfl ?_)
    (refine r_pure (a_assign (r := .p _)) rfl rfl ?_)
    refine arun_nil ?_
    refine thn_n ?_
    refine awp_cond _ rfl (fun h => ?_) (fun h => ?_)
    · simp at h; omega
    refine awp_seq ?_
    refine awp_text (by kernel_rfl) ?_
    (refine r_pure a_eql rfl rfl ?_)
    (refine r_pure (a_assign (r := .p _)) rfl rfl ?_)
    refine arun_nil ?_
    refine thn_n ?_
    refine awp_cond _ rfl (fun h => ?_) (fun h => ?_)
    · simp at h; omega
    refine awp_seq ?_
    refine awp_text (by kernel_rfl) ?_
    (refine r_pure a_eql rfl rfl ?_)
    (refine r_pure (a_assign (r := .p _)) rfl rfl ?_)
    refine arun_nil ?_
    refine thn_n ?_
    refine awp_cond _ rfl (fun h => ?_) (fun h => ?_)
    · simp at h; omega
    refine awp_seq ?_
    refine awp_text (by kernel_rfl) ?_
    (refine r_pure (a_assign (r := .p _)) rfl rfl ?_)
    refine arun_nil ?_
    refine awp_ret (inb_r (thn_r ?_))
    refine ⟨(by first | exact .inl rfl | exact .inr rfl), _, (fun o => o), (.tmp _ _ _ _ rfl .nil), ?_, rfl, ?_, rfl⟩
    · exact rfl
    · exact trivial
  refine awp_join3 (St.of [(1, .ref 1 0), (3, .p (.v (.int .i64 (ofS m.t).lo))), (4, .p (.v (.int .i64 (ofS m.t).hi))), (5, .p (.v (.string (hasOf m.t))))] [(1, .box 66 m.cells)]) ?_ (fun st' r => awp_re r ?_)
  · refine awp_block (awp_seq ?_)
    refine awp_text (by kernel_rfl) ?_
    (refine r_pure a_eql rfl rfl ?_)
    (refine r_pure (a_assign (r := .p _)) rfl rfl ?_)
    refine arun_nil ?_
    refine thn_n ?_
    refine awp_cond _ rfl (fun h => ?_) (fun h => ?_)
    · have h1 : m.t = 1 := by simpa using h
      rw [show ofS m.t = ⟨32, 32, true, false, false, true⟩ by unfold ofS; rw [if_pos h1], show hasOf m.t = ⟨#[115]⟩ by unfold hasOf; rw [if_pos h1]]
      skip
      refine awp_text (by kernel_rfl) ?_
      (refine r_pure (a_assign (r := .p _)) rfl rfl ?_)
      (refine r_pure (a_assign (r := .p _)) rfl rfl ?_)
      (refine r_pure (a_assign (r := .p _)) rfl rfl ?_)
      refine arun_nil ?_
      refine inb_n (thn_n ?_)
      exact re_of id _ _ ⟨⟨rfl, rfl⟩, ⟨rfl, rfl⟩, ⟨rfl, rfl⟩, ⟨rfl, rfl⟩, trivial⟩ ⟨⟨rfl, rfl⟩, trivial⟩ rfl
    have h1 : ¬ m.t = 1 := by simpa using h
    clear h
    refine awp_seq ?_
    refine awp_text (by kernel_rfl) ?_
    (refine r_pure a_eql rfl rfl ?_)
    (refine r_pure (a_assign (r := .p _)) rfl rfl ?_)
    refine arun_nil ?_
    refine thn_n ?_
    refine awp_cond _ rfl (fun h => ?_) (fun h => ?_)
    · have h2 : m.t = 2 := by simpa using h
      rw [show ofS m.t = ⟨24, 24, true, true, false, true⟩ by unfold ofS; rw [if_neg h1, if_pos h2], show hasOf m.t = ⟨#[115, 114]⟩ by unfold hasOf; rw [if_neg h1, if_pos h2]]
      skip
      refine awp_text (by kernel_rfl) ?_
      (refine r_pure (a_assign (r := .p _)) rfl rfl ?_)
      (refine r_pure (a_assign (r := .p _)) rfl rfl ?_)
      (refine r_pure (a_assign (r := .p _)) rfl rfl ?_)
      refine arun_nil ?_
      refine inb_n (thn_n ?_)
      exact re_of id _ _ ⟨⟨rfl, rfl⟩, ⟨rfl, rfl⟩, ⟨rfl, rfl⟩, ⟨rfl, rfl⟩, trivial⟩ ⟨⟨rfl, rfl⟩, trivial⟩ rfl
    have h2 : ¬ m.t = 2 := by simpa using h
    clear h
    refine awp_seq ?_
    refine awp_text (by kernel_rfl) ?_
    (refine r_pure a_eql rfl rfl ?_)
    (refine r_pure (a_assign (r := .p _)) rfl rfl ?_)
    refine arun_nil ?_
    refine thn_n ?_
    refine awp_cond _ rfl (fun h => ?_) (fun h => ?_)
    · have h3 : m.t = 4 := by simpa using h
      rw [show ofS m.t = ⟨16, 236, false, true, true, true⟩ by unfold ofS; rw [if_neg h1, if_neg h2, if_pos h3], show hasOf m.t = ⟨#[114, 99]⟩ by unfold hasOf; rw [if_neg h1, if_neg h2]]
      skip
      refine awp_text (by kernel_rfl) ?_
      (refine r_pure (a_assign (r := .p _)) rfl rfl ?_)
      (refine r_pure (a_assign (r := .p _)) rfl rfl ?_)
      (refine r_pure (a_assign (r := .p _)) rfl rfl ?_)
      refine arun_nil ?_
      refine inb_n (thn_n ?_)
      exact re_of id _ _ ⟨⟨rfl, rfl⟩, ⟨rfl, rfl⟩, ⟨rfl, rfl⟩, ⟨rfl, rfl⟩, trivial⟩ ⟨⟨rfl, rfl⟩, trivial⟩ rfl
    · simp at h; omega
  have hok : (ofS m.t).ok = true := by
    rcases ht with h | h | h <;> rw [h] <;> rfl
  have hhas := fun i hi => has_at m.t i hi ht
  have hE : wE m = if formB (ofS m.t) m = true then 3 else if rngB m = true then 4 else if sizB (ofS m.t) m = true then 1 else 0 := by
    unfold wE; rw [if_neg (by simp [hok])]
  rw [hE]
  clear hE hok ht
  generalize ofS m.t = x at *
  generalize hasOf m.t = hs at *
  refine awp_seq (awp_seq ?_)
  refine awp_text (by kernel_rfl) ?_
  (refine r_pure (b_fieldAddr fi66_1 rfl) rfl rfl ?_)
  (refine r_run (a_load1 Try.underlying3 rfl (by first | rfl | assumption)) rfl rfl ⟨rfl, trivial⟩ ?_)
  (refine r_pure (b_build pl117 zr117 rfl rfl) rfl rfl ?_)
  (refine r_pure (b_fieldAddr fi66_2 rfl) rfl rfl ?_)
  (refine r_run (a_load1 Try.underlying3 rfl (by first | rfl | assumption)) rfl rfl ⟨rfl, trivial⟩ ?_)
  (refine r_pure (b_build pl117 zr117 rfl rfl) rfl rfl ?_)
  (refine r_pure (b_fieldAddr fi66_3 rfl) rfl rfl ?_)
  (refine r_run (a_load1 Try.underlying3 rfl (by first | rfl | assumption)) rfl rfl ⟨rfl, trivial⟩ ?_)
  (refine r_pure (b_build pl117 zr117 rfl rfl) rfl rfl ?_)
  (refine r_run (xs := [.agg [.p (.v (.string ⟨#[115]⟩)), .p (.v (.int .i64 m.s))], .agg [.p (.v (.string ⟨#[114]⟩)), .p (.v (.int .i64 m.r))], .agg [.p (.v (.string ⟨#[99]⟩)), .p (.v (.int .i64 m.c))]]) (a_buildSlice (es := ((wL m).map AV.p)) (cs := (wL m)) 25 Try.underlying118 sz117 zc117 (Nat.le_of_ble_eq_true rfl) (Nat.le_of_ble_eq_true rfl) rfl (by kernel_rfl) (by kernel_rfl) (by kernel_rfl) (Nat.le_of_ble_eq_true rfl)) (by first | rfl | kernel_rfl) rfl ⟨rfl, trivial⟩ ?_)
  (refine r_run (a_lenR Try.underlying118) rfl rfl ⟨rfl, trivial⟩ ?_)
  (refine r_pure (a_move (r := .p _)) rfl rfl ?_)
  refine arun_nil ?_
  refine awp_block ?_
  refine awp_loopR (fun q st => ∃ i : Nat, q + i = 3 ∧ (∀ j, j < i → (!(wH x j) && (wN m j != 0)) = false) ∧ st = St.of [(1, .ref 1 0), (3, .p (.v (.int .i64 x.lo))), (4, .p (.v (.int .i64 x.hi))), (5, .p (.v (.string hs))), (25, .row 25), (26, .p (.v (.int .i64 3))), (27, .p (.v (.int .i64 i)))] [(1, .box 66 m.cells), (25, .row 117 2 3 (wL m))]) 3 ?_ ?_
  · refine ⟨_, re_of id _ _ ?_ ?_ rfl, 0, by omega, by omega, rfl⟩
    · (repeat (first | exact trivial | (refine ⟨⟨(by first | rfl | (simp; done) | (simp; omega)), rfl⟩, ?_⟩)))
    · exact ⟨⟨rfl, rfl⟩, ⟨rfl, rfl⟩, trivial⟩
  rintro q st ⟨i, hi, hf, rfl⟩
  refine awp_seq ?_
  refine awp_text (by kernel_rfl) ?_
  (refine r_pure a_lss rfl rfl ?_)
  refine arun_nil ?_
  refine awp_seq ?_
  refine awp_cond _ rfl (fun h => ?_) (fun h => ?_)
  · have hlt : i < 3 := by simp at h; omega
    clear h
    have hat := wL_at m i hlt
    have hct := contains1_s hs (wC i)
    rw [hhas i hlt] at hct
    have hw : wL m = wL m := rfl
    have hlen : (wL m).length = 6 := rfl
    generalize wL m = WL at *
    have hfm : (!(wH x i) && (wN m i != 0)) = true → formB x m = true := by
      intro h1
      unfold formB
      match i, hlt with
      | 0, _ => rw [show (!x.s && (m.s != 0)) = true from h1]; simp
      | 1, _ => rw [show (!x.r && (m.r != 0)) = true from h1]; simp
      | 2, _ => rw [show (!x.c && (m.c != 0)) = true from h1]; simp
    generalize hwn : wN m i = N at *
    generalize hwh : wH x i = H at *
    generalize wC i = CC at *
    refine awp_skip (awp_seq (awp_block (awp_seq ?_)))
    refine awp_text (by kernel_rfl) ?_
    (refine r_run (a_indexAddrR Try.underlying118 sz117 (by omega) (by omega) (show _ = i * 2 by omega)) rfl rfl ⟨rfl, trivial⟩ ?_)
    (refine r_run (a_loadNr Try.underlying117 rfl sz117 (by omega) (hat)) rfl rfl ⟨rfl, trivial⟩ ?_)
    (refine r_run (a_alloc 7 zr117 rfl) rfl rfl ⟨rfl, trivial⟩ ?_)
    refine r_run (a_storeAll (Y := .agg [.p (.v (.string ⟨#[CC]⟩)), .p (.v (.int .i64 N))]) sz117 rfl rfl (Nat.eq_of_beq_eq_true rfl)) rfl rfl ⟨rfl, trivial⟩ ?_
    refine arun_nil ?_
    refine awp_seq ?_
    refine awp_text (by kernel_rfl) ?_
    (refine r_pure (b_fieldAddr fi117_1 rfl) rfl rfl ?_)
    (refine r_run (a_load1 Try.underlying3 rfl (by first | rfl | assumption)) rfl rfl ⟨rfl, trivial⟩ ?_)
    (refine r_pure a_neq rfl rfl ?_)
    (refine r_pure (a_move (r := .p _)) rfl rfl ?_)
    (refine r_mb2 _ rfl rfl (by (repeat (first | exact stripOK_nil | refine stripOK_mb id ?_ | refine stripOK_p ?_ | refine stripOK_ref ?_ | refine stripOK_row ?_ | refine stripOK_ptr ?_ | refine stripOK_agg ?_ | refine stripOK_mb (by simp_all) ?_ | refine StripOK.plain _ _ rfl ?_))) (fun hb => (a_move (r := .p _))) (fun _ => trivial) ?_)
    (refine r_mb2 _ rfl rfl (by (repeat (first | exact stripOK_nil | refine stripOK_mb id ?_ | refine stripOK_p ?_ | refine stripOK_ref ?_ | refine stripOK_row ?_ | refine stripOK_ptr ?_ | refine stripOK_agg ?_ | refine stripOK_mb (by simp_all) ?_ | refine StripOK.plain _ _ rfl ?_))) (fun hb => (b_fieldAddr fi117_0 rfl)) (fun _ => trivial) ?_)
    (refine r_mb2 _ rfl rfl (by (repeat (first | exact stripOK_nil | refine stripOK_mb id ?_ | refine stripOK_p ?_ | refine stripOK_ref ?_ | refine stripOK_row ?_ | refine stripOK_ptr ?_ | refine stripOK_agg ?_ | refine stripOK_mb (by simp_all) ?_ | refine StripOK.plain _ _ rfl ?_))) (fun hb => (a_load1 Try.underlying9 rfl (by first | rfl | assumption))) (fun _ => ⟨rfl, trivial⟩) ?_)
    (refine r_mb2 _ rfl rfl (by (repeat (first | exact stripOK_nil | refine stripOK_mb id ?_ | refine stripOK_p ?_ | refine stripOK_ref ?_ | refine stripOK_row ?_ | refine stripOK_ptr ?_ | refine stripOK_agg ?_ | refine stripOK_mb (by simp_all) ?_ | refine StripOK.plain _ _ rfl ?_))) (fun _ => a_callS0 Try.func93 rfl rfl (hct) (by first | rfl | simp [AV.okInL, AV.okIn, okInL_map]) rfl) (fun _ => trivial) ?_)
    (refine r_mb2 _ rfl rfl (by (repeat (first | exact stripOK_nil | refine stripOK_mb id ?_ | refine stripOK_p ?_ | refine stripOK_ref ?_ | refine stripOK_row ?_ | refine stripOK_ptr ?_ | refine stripOK_agg ?_ | refine stripOK_mb (by simp_all) ?_ | refine StripOK.plain _ _ rfl ?_))) (fun hb => a_not) (fun _ => trivial) ?_)
    (refine r_pure (a_and (by first | exact id | (simp; done) | grind)) rfl rfl ?_)
    refine arun_nil ?_
    refine thn_n ?_
    refine awp_cond _ rfl (fun h => ?_) (fun h => ?_)
    · have h1 : (!H && (N != 0)) = true := by rw [Bool.and_comm]; exact h
      rw [if_pos (hfm h1)]
      refine awp_seq ?_
      refine awp_text (by kernel_rfl) ?_
      (refine r_pure (a_assign (r := .p _)) rfl rfl ?_)
      refine arun_nil ?_
      refine awp_ret (inb_r (thn_r (thn_r (inb_r (thn_r ?_)))))
      refine ⟨(by first | exact .inl rfl | exact .inr rfl), _, (fun o => o), (.tmp _ _ _ _ rfl .nil), ?_, rfl, ?_, rfl⟩
      · exact rfl
      · exact trivial
    · have h1 : (!H && (N != 0)) = false := by rw [Bool.and_comm]; exact h
      clear h
      refine awp_skip (inb_n (thn_n ?_))
      refine awp_text (by kernel_rfl) ?_
      (refine r_pure (a_add (by first | exact IntWalk.i64_in _ (by omega) | rfl)) rfl rfl ?_)
      (refine r_pure (a_move (r := .p _)) rfl rfl ?_)
      refine arun_nil ?_
      refine thn_n ?_
      refine ⟨q - 1, by omega, _, re_of id _ _ ?_ ?_ rfl, i + 1, by omega, ?_, rfl⟩
      · (repeat (first | exact trivial | (refine ⟨⟨(by first | rfl | (simp; done) | (simp; omega)), rfl⟩, ?_⟩)))
      · exact ⟨⟨rfl, rfl⟩, ⟨rfl, rfl⟩, trivial⟩
      · intro j hj
        by_cases e : j = i
        · subst e; rw [hwh, hwn]; exact h1
        · exact hf j (by omega)
  have hge : i = 3 := by simp at h; omega
  clear h
  subst hge
  have hform : formB x m = false := by
    have a0 : (!x.s && (m.s != 0)) = false := hf 0 (by omega)
    have a1 : (!x.r && (m.r != 0)) = false := hf 1 (by omega)
    have a2 : (!x.c && (m.c != 0)) = false := hf 2 (by omega)
    unfold formB; rw [a0, a1, a2]; rfl
  rw [if_neg (by simp [hform])]
  have hrng : rngB m = (((((decide (m.s < 0) || decide (4294967296 ≤ m.s)) || decide (m.r < 0)) || decide (4294967296 ≤ m.r)) || decide (m.c < 0)) || decide (1099511627776 < m.c)) := by
    unfold rngB
    rw [show decide (4294967295 < m.s) = decide (4294967296 ≤ m.s) from decide_eq_decide.2 (by omega), show decide (4294967295 < m.r) = decide (4294967296 ≤ m.r) from decide_eq_decide.2 (by omega)]
  refine awp_exit (awp_seq (awp_seq ?_))
  refine awp_text (by kernel_rfl) ?_
  (refine r_pure (b_fieldAddr fi66_1 rfl) rfl rfl ?_)
  (refine r_run (a_load1 Try.underlying3 rfl (by first | rfl | assumption)) rfl rfl ⟨rfl, trivial⟩ ?_)
  (refine r_pure a_lss rfl rfl ?_)
  (refine r_pure (a_move (r := .p _)) rfl rfl ?_)
  (refine r_mb2 _ rfl rfl (by (repeat (first | exact stripOK_nil | refine stripOK_mb id ?_ | refine stripOK_p ?_ | refine stripOK_ref ?_ | refine stripOK_row ?_ | refine stripOK_ptr ?_ | refine stripOK_agg ?_ | refine stripOK_mb (by simp_all) ?_ | refine StripOK.plain _ _ rfl ?_))) (fun hb => (b_fieldAddr fi66_1 rfl)) (fun _ => trivial) ?_)
  (refine r_mb2 _ rfl rfl (by (repeat (first | exact stripOK_nil | refine stripOK_mb id ?_ | refine stripOK_p ?_ | refine stripOK_ref ?_ | refine stripOK_row ?_ | refine stripOK_ptr ?_ | refine stripOK_agg ?_ | refine stripOK_mb (by simp_all) ?_ | refine StripOK.plain _ _ rfl ?_))) (fun hb => (a_load1 Try.underlying3 rfl (by first | rfl | assumption))) (fun _ => ⟨rfl, trivial⟩) ?_)
  (refine r_mb2 _ rfl rfl (by (repeat (first | exact stripOK_nil | refine stripOK_mb id ?_ | refine stripOK_p ?_ | refine stripOK_ref ?_ | refine stripOK_row ?_ | refine stripOK_ptr ?_ | refine stripOK_agg ?_ | refine stripOK_mb (by simp_all) ?_ | refine StripOK.plain _ _ rfl ?_))) (fun hb => a_geq) (fun _ => trivial) ?_)
  (refine r_pure (a_or (by first | exact id | (simp; done) | grind)) rfl rfl ?_)
  (refine r_pure (a_move (r := .p _)) rfl rfl ?_)
  (refine r_mb2 _ rfl rfl (by (repeat (first | exact stripOK_nil | refine stripOK_mb id ?_ | refine stripOK_p ?_ | refine stripOK_ref ?_ | refine stripOK_row ?_ | refine stripOK_ptr ?_ | refine stripOK_agg ?_ | refine stripOK_mb (by simp_all) ?_ | refine StripOK.plain _ _ rfl ?_))) (fun hb => (b_fieldAddr fi66_2 rfl)) (fun _ => trivial) ?_)
  (refine r_mb2 _ rfl rfl (by (repeat (first | exact stripOK_nil | refine stripOK_mb id ?_ | refine stripOK_p ?_ | refine stripOK_ref ?_ | refine stripOK_row ?_ | refine stripOK_ptr ?_ | refine stripOK_agg ?_ | refine stripOK_mb (by simp_all) ?_ | refine StripOK.plain _ _ rfl ?_))) (fun hb => (a_load1 Try.underlying3 rfl (by first | rfl | assumption))) (fun _ => ⟨rfl, trivial⟩) ?_)
  (refine r_mb2 _ rfl rfl (by (repeat (first | exact stripOK_nil | refine stripOK_mb id ?_ | refine stripOK_p ?_ | refine stripOK_ref ?_ | refine stripOK_row ?_ | refine stripOK_ptr ?_ | refine stripOK_agg ?_ | refine stripOK_mb (by simp_all) ?_ | refine StripOK.plain _ _ rfl ?_))) (fun hb => a_lss) (fun _ => trivial) ?_)
  (refine r_pure (a_or (by first | exact id | (simp; done) | grind)) rfl rfl ?_)
  (refine r_pure (a_move (r := .p _)) rfl rfl ?_)
  (refine r_mb2 _ rfl rfl (by (repeat (first | exact stripOK_nil | refine stripOK_mb id ?_ | refine stripOK_p ?_ | refine stripOK_ref ?_ | refine stripOK_row ?_ | refine stripOK_ptr ?_ | refine stripOK_agg ?_ | refine stripOK_mb (by simp_all) ?_ | refine StripOK.plain _ _ rfl ?_))) (fun hb => (b_fieldAddr fi66_2 rfl)) (fun _ => trivial) ?_)
  (refine r_mb2 _ rfl rfl (by (repeat (first | exact stripOK_nil | refine stripOK_mb id ?_ | refine stripOK_p ?_ | refine stripOK_ref ?_ | refine stripOK_row ?_ | refine stripOK_ptr ?_ | refine stripOK_agg ?_ | refine stripOK_mb (by simp_all) ?_ | refine StripOK.plain _ _ rfl ?_))) (fun hb => (a_load1 Try.underlying3 rfl (by first | rfl | assumption))) (fun _ => ⟨rfl, trivial⟩) ?_)
  (refine r_mb2 _ rfl rfl (by (repeat (first | exact stripOK_nil | refine stripOK_mb id ?_ | refine stripOK_p ?_ | refine stripOK_ref ?_ | refine stripOK_row ?_ | refine stripOK_ptr ?_ | refine stripOK_agg ?_ | refine stripOK_mb (by simp_all) ?_ | refine StripOK.plain _ _ rfl ?_))) (fun hb => a_geq) (fun _ => trivial) ?_)
  (refine r_pure (a_or (by first | exact id | (simp; done) | grind)) rfl rfl ?_)
  (refine r_pure (a_move (r := .p _)) rfl rfl ?_)
  (refine r_mb2 _ rfl rfl (by (repeat (first | exact stripOK_nil | refine stripOK_mb id ?_ | refine stripOK_p ?_ | refine stripOK_ref ?_ | refine stripOK_row ?_ | refine stripOK_ptr ?_ | refine stripOK_agg ?_ | refine stripOK_mb (by simp_all) ?_ | refine StripOK.plain _ _ rfl ?_))) (fun hb => (b_fieldAddr fi66_3 rfl)) (fun _ => trivial) ?_)
  (refine r_mb2 _ rfl rfl (by (repeat (first | exact stripOK_nil | refine stripOK_mb id ?_ | refine stripOK_p ?_ | refine stripOK_ref ?_ | refine stripOK_row ?_ | refine stripOK_ptr ?_ | refine stripOK_agg ?_ | refine stripOK_mb (by simp_all) ?_ | refine StripOK.plain _ _ rfl ?_))) (fun hb => (a_load1 Try.underlying3 rfl (by first | rfl | assumption))) (fun _ => ⟨rfl, trivial⟩) ?_)
  (refine r_mb2 _ rfl rfl (by (repeat (first | exact stripOK_nil | refine stripOK_mb id ?_ | refine stripOK_p ?_ | refine stripOK_ref ?_ | refine stripOK_row ?_ | refine stripOK_ptr ?_ | refine stripOK_agg ?_ | refine stripOK_mb (by simp_all) ?_ | refine StripOK.plain _ _ rfl ?_))) (fun hb => a_lss) (fun _ => trivial) ?_)
  (refine r_pure (a_or (by first | exact id | (simp; done) | grind)) rfl rfl ?_)
  (refine r_pure (a_move (r := .p _)) rfl rfl ?_)
  (refine r_mb2 _ rfl rfl (by (repeat (first | exact stripOK_nil | refine stripOK_mb id ?_ | refine stripOK_p ?_ | refine stripOK_ref ?_ | refine stripOK_row ?_ | refine stripOK_ptr ?_ | refine stripOK_agg ?_ | refine stripOK_mb (by simp_all) ?_ | refine StripOK.plain _ _ rfl ?_))) (fun hb => (b_fieldAddr fi66_3 rfl)) (fun _ => trivial) ?_)
  (refine r_mb2 _ rfl rfl (by (repeat (first | exact stripOK_nil | refine stripOK_mb id ?_ | refine stripOK_p ?_ | refine stripOK_ref ?_ | refine stripOK_row ?_ | refine stripOK_ptr ?_ | refine stripOK_agg ?_ | refine stripOK_mb (by simp_all) ?_ | refine StripOK.plain _ _ rfl ?_))) (fun hb => (a_load1 Try.underlying3 rfl (by first | rfl | assumption))) (fun _ => ⟨rfl, trivial⟩) ?_)
  (refine r_mb2 _ rfl rfl (by (repeat (first | exact stripOK_nil | refine stripOK_mb id ?_ | refine stripOK_p ?_ | refine stripOK_ref ?_ | refine stripOK_row ?_ | refine stripOK_ptr ?_ | refine stripOK_agg ?_ | refine stripOK_mb (by simp_all) ?_ | refine StripOK.plain _ _ rfl ?_))) (fun hb => a_gtr) (fun _ => trivial) ?_)
  (refine r_pure (a_or (by first | exact id | (simp; done) | grind)) rfl rfl ?_)
  refine arun_nil ?_
  refine thn_n ?_
  refine awp_cond _ rfl (fun h => ?_) (fun h => ?_)
  · rw [if_pos (hrng.trans h)]
    refine awp_seq ?_
    refine awp_text (by kernel_rfl) ?_
    (refine r_pure (a_assign (r := .p _)) rfl rfl ?_)
    refine arun_nil ?_
    refine awp_ret (thn_r ?_)
    refine ⟨(by first | exact .inl rfl | exact .inr rfl), _, (fun o => o), (.tmp _ _ _ _ rfl .nil), ?_, rfl, ?_, rfl⟩
    · exact rfl
    · exact trivial
  rw [if_neg (by rw [hrng.trans h]; simp)]
  clear h
  refine awp_skip (awp_seq (awp_seq ?_))
  refine awp_text (by kernel_rfl) ?_
  (refine r_pure (b_fieldAddr fi66_4 rfl) rfl rfl ?_)
  (refine r_run (a_load1 Try.underlying42 rfl (by first | rfl | assumption)) rfl rfl ⟨rfl, trivial⟩ ?_)
  (refine r_pure (a_lenS Try.underlying42) rfl rfl ?_)
  (refine r_pure (a_move (r := .p _)) rfl rfl ?_)
  (refine r_pure a_lss rfl rfl ?_)
  (refine r_pure (a_move (r := .p _)) rfl rfl ?_)
  (refine r_mb2 _ rfl rfl (by (repeat (first | exact stripOK_nil | refine stripOK_mb id ?_ | refine stripOK_p ?_ | refine stripOK_ref ?_ | refine stripOK_row ?_ | refine stripOK_ptr ?_ | refine stripOK_agg ?_ | refine stripOK_mb (by simp_all) ?_ | refine StripOK.plain _ _ rfl ?_))) (fun hb => (b_fieldAddr fi66_4 rfl)) (fun _ => trivial) ?_)
  (refine r_mb2 _ rfl rfl (by (repeat (first | exact stripOK_nil | refine stripOK_mb id ?_ | refine stripOK_p ?_ | refine stripOK_ref ?_ | refine stripOK_row ?_ | refine stripOK_ptr ?_ | refine stripOK_agg ?_ | refine stripOK_mb (by simp_all) ?_ | refine StripOK.plain _ _ rfl ?_))) (fun hb => (a_load1 Try.underlying42 rfl (by first | rfl | assumption))) (fun _ => ⟨rfl, trivial⟩) ?_)
  (refine r_mb2 _ rfl rfl (by (repeat (first | exact stripOK_nil | refine stripOK_mb id ?_ | refine stripOK_p ?_ | refine stripOK_ref ?_ | refine stripOK_row ?_ | refine stripOK_ptr ?_ | refine stripOK_agg ?_ | refine stripOK_mb (by simp_all) ?_ | refine StripOK.plain _ _ rfl ?_))) (fun hb => (a_lenS Try.underlying42)) (fun _ => trivial) ?_)
  (refine r_mb2 _ rfl rfl (by (repeat (first | exact stripOK_nil | refine stripOK_mb id ?_ | refine stripOK_p ?_ | refine stripOK_ref ?_ | refine stripOK_row ?_ | refine stripOK_ptr ?_ | refine stripOK_agg ?_ | refine stripOK_mb (by simp_all) ?_ | refine StripOK.plain _ _ rfl ?_))) (fun hb => (a_move (r := .p _))) (fun _ => trivial) ?_)
  (refine r_mb2 _ rfl rfl (by (repeat (first | exact stripOK_nil | refine stripOK_mb id ?_ | refine stripOK_p ?_ | refine stripOK_ref ?_ | refine stripOK_row ?_ | refine stripOK_ptr ?_ | refine stripOK_agg ?_ | refine stripOK_mb (by simp_all) ?_ | refine StripOK.plain _ _ rfl ?_))) (fun hb => a_gtr) (fun _ => trivial) ?_)
  (refine r_pure (a_or (by first | exact id | (simp; done) | grind)) rfl rfl ?_)
  refine arun_nil ?_
  refine thn_n ?_
  refine awp_cond _ rfl (fun h => ?_) (fun h => ?_)
  · rw [if_pos (show sizB x m = true from h)]
    refine awp_seq ?_
    refine awp_text (by kernel_rfl) ?_
    (refine r_pure (a_assign (r := .p _)) rfl rfl ?_)
    refine arun_nil ?_
    refine awp_ret (thn_r ?_)
    refine ⟨(by first | exact .inl rfl | exact .inr rfl), _, (fun o => o), (.tmp _ _ _ _ rfl .nil), ?_, rfl, ?_, rfl⟩
    · exact rfl
    · exact trivial
  rw [if_neg (show ¬ sizB x m = true by have h' : sizB x m = false := h; simp [h'])]
  refine awp_skip (awp_seq ?_)
  refine awp_text (by kernel_rfl) ?_
  (refine r_pure (a_assign (r := .p _)) rfl rfl ?_)
  refine arun_nil ?_
  refine awp_ret ?_
  refine ⟨(by first | exact .inl rfl | exact .inr rfl), _, (fun o => o), (.tmp _ _ _ _ rfl .nil), ?_, rfl, ?_, rfl⟩
  · exact rfl
  · exact trivial

set_option maxHeartbeats 2000000 in
theorem refWBytes1_s (m : MS) (ht : m.t = 1) (hE : wE m = 0) (hx : m.xs.length = m.n) (hB : isB m.xs) (hn : m.n ≤ 300) (hs0 : 0 ≤ m.s) (hs1 : m.s ≤ 4294967295) (hr0 : 0 ≤ m.r) (hr1 : m.r ≤ 4294967295) (hc0 : 0 ≤ m.c) (hc1 : m.c ≤ 1099511627776) : Fn Try.prog 48 [.agg m.cells] (.tup [.row 0, .p (.v (.int .i64 0))]) [(0, .row 5 1 (8 + m.n) (bs ([1, 0, 0, 0] ++ leN 4 m.s.toNat ++ m.xs)))] := by
  have hC := refWFault_s m (by omega)
  rw [hE] at hC
  have hT := little_s 4 1 (by omega) (by omega)
  have hLB : isB ([1, 0, 0, 0] ++ leN 4 m.s.toNat ++ m.xs) := by
    intro y hy
    simp only [List.mem_append] at hy
    rcases hy with (h0 | h1) | h2
    · simp at h0; omega
    · exact leN_B _ _ _ h1
    · exact hB _ h2
  obtain ⟨T, S, R, C, n, xs⟩ := m
  simp only [MS.cells] at *
  subst ht
  obtain ⟨S, rfl⟩ := Int.eq_ofNat_of_zero_le hs0
  obtain ⟨R, rfl⟩ := Int.eq_ofNat_of_zero_le hr0
  obtain ⟨C, rfl⟩ := Int.eq_ofNat_of_zero_le hc0
  simp only [Int.toNat_natCast] at *
  clear hE hs0 hr0 hc0
  rw [show leN 4 1 = [1, 0, 0, 0] by decide] at hT
  have z0 : (strOfNums ([1, 0, 0, 0])).size = 4 := by rw [nums_size]; rfl
  have l1 := little_s 4 S (by omega) (by omega)
  have c1 : strOfNums ([1, 0, 0, 0]) ++ strOfNums (leN 4 S) = strOfNums ([1, 0, 0, 0] ++ leN 4 S) := str_app' _ _
  have y1 : (strOfNums (leN 4 S)).size = 4 := by rw [nums_size, leN_len]
  have z1 : (strOfNums ([1, 0, 0, 0] ++ leN 4 S)).size = 8 := by rw [nums_size]; simp [leN_len]
  have cL : strOfNums ([1, 0, 0, 0] ++ leN 4 S) ++ strOfNums xs = strOfNums ([1, 0, 0, 0] ++ leN 4 S ++ xs) := str_app' _ _
  have yL : (strOfNums xs).size = n := by rw [nums_size, hx]
  have zL : (strOfNums ([1, 0, 0, 0] ++ leN 4 S ++ xs)).size = 8 + n := by rw [nums_size, List.length_append, hx, ← nums_size, z1]
  have xL := sb_nums hLB
  refine fn_intro Try.func48 rfl (Nat.le_of_ble_eq_true rfl) fun w0 A => ?_
  refine awp_seq ?_
  refine awp_text (by kernel_rfl) ?_
  (refine r_run (a_box (X := .agg _) 1 rfl) rfl rfl ⟨rfl, trivial⟩ ?_)
  (refine r_pure (a_assign (r := .p _)) rfl rfl ?_)
  (refine r_pure (a_assign (r := .p _)) rfl rfl ?_)
  refine arun_nil ?_
  refine awp_seq (awp_seq ?_)
  refine awp_text (by kernel_rfl) ?_
  (refine r_run (a_loadN Try.underlying66 rfl sz66 (by first | exact Nat.le_of_ble_eq_true rfl | omega | (simp only [AV.cells, List.length_map]; omega)) (by first | exact take_all (by first | assumption | exact Nat.eq_of_beq_eq_true rfl | (simp only [AV.cells, List.length_map]; first | assumption | omega)) | (simp only [List.take_succ_cons, List.take_zero, List.drop_succ_cons, List.drop_zero]; rfl) | rfl)) rfl rfl ⟨rfl, trivial⟩ ?_)
  (refine r_callV (fun n => 7 + 1000 * n) (hC) rfl rfl Try.func47 rfl rfl (by first | rfl | simp [AV.noSl, AV.noSlL, AObj.noSl, PV.isV, bs_noSl]) (by first | rfl | simp [AV.noSl, AV.noSlL, AObj.noSl, PV.isV, bs_noSl]) rfl rfl rfl (by first | exact trivial | exact ⟨rfl, trivial⟩ | exact ⟨rfl, rfl, trivial⟩) rfl rfl rfl ?_)
  (refine r_pure (a_assign (r := .p _)) rfl rfl ?_)
  refine arun_nil ?_
  refine awp_seq ?_
  refine awp_text (by kernel_rfl) ?_
  (refine r_pure (a_move (r := .p _)) rfl rfl ?_)
  (refine r_pure a_neq rfl rfl ?_)
  refine arun_nil ?_
  refine thn_n ?_
  refine awp_cond _ rfl (fun h => ?_) (fun h => ?_)
  · cases h
  clear h
  refine awp_skip (awp_seq ?_)
  refine awp_text (by kernel_rfl) ?_
  (refine r_pure (b_fieldAddr fi66_0 rfl) rfl rfl ?_)
  (refine r_run (a_load1 Try.underlying3 rfl (by first | rfl | assumption)) rfl rfl ⟨rfl, trivial⟩ ?_)
  (refine r_callV (fun n => 13 + 1000 * n) (hT) rfl rfl Try.func94 rfl rfl (by first | rfl | simp [AV.noSl, AV.noSlL, AObj.noSl, PV.isV, bs_noSl]) (by first | rfl | simp [AV.noSl, AV.noSlL, AObj.noSl, PV.isV, bs_noSl]) rfl rfl rfl (by first | exact trivial | exact ⟨rfl, trivial⟩ | exact ⟨rfl, rfl, trivial⟩) rfl rfl rfl ?_)
  (refine r_pure (a_assign (r := .p _)) rfl rfl ?_)
  refine arun_nil ?_
  refine awp_seq (awp_seq ?_)
  refine awp_text (by kernel_rfl) ?_
  (refine r_pure (b_fieldAddr fi66_0 rfl) rfl rfl ?_)
  (refine r_run (a_load1 Try.underlying3 rfl (by first | rfl | assumption)) rfl rfl ⟨rfl, trivial⟩ ?_)
  (refine r_pure a_lss rfl rfl ?_)
  refine arun_nil ?_
  refine thn_n ?_
  refine awp_cond _ rfl (fun h => ?_) (fun h => ?_)
  rotate_left
  · simp at h
  clear h
  skip
  refine awp_text (by kernel_rfl) ?_
  (refine r_pure (a_move (r := .p _)) rfl rfl ?_)
  (refine r_pure (b_fieldAddr fi66_1 rfl) rfl rfl ?_)
  (refine r_run (a_load1 Try.underlying3 rfl (by first | rfl | assumption)) rfl rfl ⟨rfl, trivial⟩ ?_)
  (refine r_callV (fun n => 20 + 1000 * n) (l1) rfl rfl Try.func94 rfl rfl (by first | rfl | simp [AV.noSl, AV.noSlL, AObj.noSl, PV.isV, bs_noSl]) (by first | rfl | simp [AV.noSl, AV.noSlL, AObj.noSl, PV.isV, bs_noSl]) rfl rfl rfl (by first | exact trivial | exact ⟨rfl, trivial⟩ | exact ⟨rfl, rfl, trivial⟩) rfl rfl rfl ?_)
  (refine r_pure (a_cat (by omega) c1) rfl rfl ?_)
  (refine r_pure (a_assign (r := .p _)) rfl rfl ?_)
  refine arun_nil ?_
  refine awp_seq (awp_seq ?_)
  refine awp_text (by kernel_rfl) ?_
  (refine r_pure (b_fieldAddr fi66_0 rfl) rfl rfl ?_)
  (refine r_run (a_load1 Try.underlying3 rfl (by first | rfl | assumption)) rfl rfl ⟨rfl, trivial⟩ ?_)
  (refine r_pure a_gtr rfl rfl ?_)
  refine arun_nil ?_
  refine thn_n ?_
  refine awp_cond _ rfl (fun h => ?_) (fun h => ?_)
  · simp at h
  clear h
  refine awp_skip (awp_seq (awp_seq ?_))
  refine awp_text (by kernel_rfl) ?_
  (refine r_pure (b_fieldAddr fi66_0 rfl) rfl rfl ?_)
  (refine r_run (a_load1 Try.underlying3 rfl (by first | rfl | assumption)) rfl rfl ⟨rfl, trivial⟩ ?_)
  (refine r_pure a_eql rfl rfl ?_)
  refine arun_nil ?_
  refine thn_n ?_
  refine awp_cond _ rfl (fun h => ?_) (fun h => ?_)
  · simp at h
  clear h
  refine awp_skip (awp_seq ?_)
  refine awp_text (by kernel_rfl) ?_
  (refine r_pure (a_move (r := .p _)) rfl rfl ?_)
  (refine r_pure (b_fieldAddr fi66_4 rfl) rfl rfl ?_)
  (refine r_run (a_load1 Try.underlying42 rfl (by first | rfl | assumption)) rfl rfl ⟨rfl, trivial⟩ ?_)
  (refine r_run (a_b2s Try.underlying42 Try.underlying5 Try.underlying9 (src_sl) rfl rfl) rfl rfl trivial ?_)
  (refine r_pure (a_cat (by omega) cL) rfl rfl ?_)
  (refine r_run (a_s2b 43 Try.underlying9 Try.underlying42 Try.underlying5 (by first | omega | (simp only [maxLen]; omega)) zL xL) rfl rfl ⟨rfl, trivial⟩ ?_)
  (refine r_pure (a_assign (r := .row _)) rfl rfl ?_)
  (refine r_pure (a_assign (r := .p _)) rfl rfl ?_)
  refine arun_nil ?_
  refine awp_ret ?_
  refine ⟨(by first | exact .inl rfl | exact .inr rfl), _, (fun _ => 43), (.tmp _ _ _ _ rfl (.tmp _ _ _ _ rfl .nil)), ?_, rfl, ?_, rfl⟩
  · exact rfl
  · exact ⟨⟨rfl, rfl⟩, trivial⟩

set_option maxHeartbeats 2000000 in
theorem refWBytes2_s (m : MS) (ht : m.t = 2) (hE : wE m = 0) (hx : m.xs.length = m.n) (hB : isB m.xs) (hn : m.n ≤ 300) (hs0 : 0 ≤ m.s) (hs1 : m.s ≤ 4294967295) (hr0 : 0 ≤ m.r) (hr1 : m.r ≤ 4294967295) (hc0 : 0 ≤ m.c) (hc1 : m.c ≤ 1099511627776) : Fn Try.prog 48 [.agg m.cells] (.tup [.row 0, .p (.v (.int .i64 0))]) [(0, .row 5 1 (12 + m.n) (bs ([2, 0, 0, 0] ++ leN 4 m.s.toNat ++ leN 4 m.r.toNat ++ m.xs)))] := by
  have hC := refWFault_s m (by omega)
  rw [hE] at hC
  have hT := little_s 4 2 (by omega) (by omega)
  have hLB : isB ([2, 0, 0, 0] ++ leN 4 m.s.toNat ++ leN 4 m.r.toNat ++ m.xs) := by
    intro y hy
    simp only [List.mem_append] at hy
    rcases hy with ((h0 | h1) | h2) | h3
    · simp at h0; omega
    · exact leN_B _ _ _ h1
    · exact leN_B _ _ _ h2
    · exact hB _ h3
  obtain ⟨T, S, R, C, n, xs⟩ := m
  simp only [MS.cells] at *
  subst ht
  obtain ⟨S, rfl⟩ := Int.eq_ofNat_of_zero_le hs0
  obtain ⟨R, rfl⟩ := Int.eq_ofNat_of_zero_le hr0
  obtain ⟨C, rfl⟩ := Int.eq_ofNat_of_zero_le hc0
  simp only [Int.toNat_natCast] at *
  clear hE hs0 hr0 hc0
  rw [show leN 4 2 = [2, 0, 0, 0] by decide] at hT
  have z0 : (strOfNums ([2, 0, 0, 0])).size = 4 := by rw [nums_size]; rfl
  have l1 := little_s 4 S (by omega) (by omega)
  have c1 : strOfNums ([2, 0, 0, 0]) ++ strOfNums (leN 4 S) = strOfNums ([2, 0, 0, 0] ++ leN 4 S) := str_app' _ _
  have y1 : (strOfNums (leN 4 S)).size = 4 := by rw [nums_size, leN_len]
  have z1 : (strOfNums ([2, 0, 0, 0] ++ leN 4 S)).size = 8 := by rw [nums_size]; simp [leN_len]
  have l2 := little_s 4 R (by omega) (by omega)
  have c2 : strOfNums ([2, 0, 0, 0] ++ leN 4 S) ++ strOfNums (leN 4 R) = strOfNums ([2, 0, 0, 0] ++ leN 4 S ++ leN 4 R) := str_app' _ _
  have y2 : (strOfNums (leN 4 R)).size = 4 := by rw [nums_size, leN_len]
  have z2 : (strOfNums ([2, 0, 0, 0] ++ leN 4 S ++ leN 4 R)).size = 12 := by rw [nums_size]; simp [leN_len]
  have cL : strOfNums ([2, 0, 0, 0] ++ leN 4 S ++ leN 4 R) ++ strOfNums xs = strOfNums ([2, 0, 0, 0] ++ leN 4 S ++ leN 4 R ++ xs) := str_app' _ _
  have yL : (strOfNums xs).size = n := by rw [nums_size, hx]
  have zL : (strOfNums ([2, 0, 0, 0] ++ leN 4 S ++ leN 4 R ++ xs)).size = 12 + n := by rw [nums_size, List.length_append, hx, ← nums_size, z2]
  have xL := sb_nums hLB
  refine fn_intro Try.func48 rfl (Nat.le_of_ble_eq_true rfl) fun w0 A => ?_
  refine awp_seq ?_
  refine awp_text (by kernel_rfl) ?_
  (refine r_run (a_box (X := .agg _) 1 rfl) rfl rfl ⟨rfl, trivial⟩ ?_)
  (refine r_pure (a_assign (r := .p _)) rfl rfl ?_)
  (refine r_pure (a_assign (r := .p _)) rfl rfl ?_)
  refine arun_nil ?_
  refine awp_seq (awp_seq ?_)
  refine awp_text (by kernel_rfl) ?_
  (refine r_run (a_loadN Try.underlying66 rfl sz66 (by first | exact Nat.le_of_ble_eq_true rfl | omega | (simp only [AV.cells, List.length_map]; omega)) (by first | exact take_all (by first | assumption | exact Nat.eq_of_beq_eq_true rfl | (simp only [AV.cells, List.length_map]; first | assumption | omega)) | (simp only [List.take_succ_cons, List.take_zero, List.drop_succ_cons, List.drop_zero]; rfl) | rfl)) rfl rfl ⟨rfl, trivial⟩ ?_)
  (refine r_callV (fun n => 7 + 1000 * n) (hC) rfl rfl Try.func47 rfl rfl (by first | rfl | simp [AV.noSl, AV.noSlL, AObj.noSl, PV.isV, bs_noSl]) (by first | rfl | simp [AV.noSl, AV.noSlL, AObj.noSl, PV.isV, bs_noSl]) rfl rfl rfl (by first | exact trivial | exact ⟨rfl, trivial⟩ | exact ⟨rfl, rfl, trivial⟩) rfl rfl rfl ?_)
  (refine r_pure (a_assign (r := .p _)) rfl rfl ?_)
  refine arun_nil ?_
  refine awp_seq ?_
  refine awp_text (by kernel_rfl) ?_
  (refine r_pure (a_move (r := .p _)) rfl rfl ?_)
  (refine r_pure a_neq rfl rfl ?_)
  refine arun_nil ?_
  refine thn_n ?_
  refine awp_cond _ rfl (fun h => ?_) (fun h => ?_)
  · cases h
  clear h
  refine awp_skip (awp_seq ?_)
  refine awp_text (by kernel_rfl) ?_
  (refine r_pure (b_fieldAddr fi66_0 rfl) rfl rfl ?_)
  (refine r_run (a_load1 Try.underlying3 rfl (by first | rfl | assumption)) rfl rfl ⟨rfl, trivial⟩ ?_)
  (refine r_callV (fun n => 13 + 1000 * n) (hT) rfl rfl Try.func94 rfl rfl (by first | rfl | simp [AV.noSl, AV.noSlL, AObj.noSl, PV.isV, bs_noSl]) (by first | rfl | simp [AV.noSl, AV.noSlL, AObj.noSl, PV.isV, bs_noSl]) rfl rfl rfl (by first | exact trivial | exact ⟨rfl, trivial⟩ | exact ⟨rfl, rfl, trivial⟩) rfl rfl rfl ?_)
  (refine r_pure (a_assign (r := .p _)) rfl rfl ?_)
  refine arun_nil ?_
  refine awp_seq (awp_seq ?_)
  refine awp_text (by kernel_rfl) ?_
  (refine r_pure (b_fieldAddr fi66_0 rfl) rfl rfl ?_)
  (refine r_run (a_load1 Try.underlying3 rfl (by first | rfl | assumption)) rfl rfl ⟨rfl, trivial⟩ ?_)
  (refine r_pure a_lss rfl rfl ?_)
  refine arun_nil ?_
  refine thn_n ?_
  refine awp_cond _ rfl (fun h => ?_) (fun h => ?_)
  rotate_left
  · simp at h
  clear h
  skip
  refine awp_text (by kernel_rfl) ?_
  (refine r_pure (a_move (r := .p _)) rfl rfl ?_)
  (refine r_pure (b_fieldAddr fi66_1 rfl) rfl rfl ?_)
  (refine r_run (a_load1 Try.underlying3 rfl (by first | rfl | assumption)) rfl rfl ⟨rfl, trivial⟩ ?_)
  (refine r_callV (fun n => 20 + 1000 * n) (l1) rfl rfl Try.func94 rfl rfl (by first | rfl | simp [AV.noSl, AV.noSlL, AObj.noSl, PV.isV, bs_noSl]) (by first | rfl | simp [AV.noSl, AV.noSlL, AObj.noSl, PV.isV, bs_noSl]) rfl rfl rfl (by first | exact trivial | exact ⟨rfl, trivial⟩ | exact ⟨rfl, rfl, trivial⟩) rfl rfl rfl ?_)
  (refine r_pure (a_cat (by omega) c1) rfl rfl ?_)
  (refine r_pure (a_assign (r := .p _)) rfl rfl ?_)
  refine arun_nil ?_
  refine awp_seq (awp_seq ?_)
  refine awp_text (by kernel_rfl) ?_
  (refine r_pure (b_fieldAddr fi66_0 rfl) rfl rfl ?_)
  (refine r_run (a_load1 Try.underlying3 rfl (by first | rfl | assumption)) rfl rfl ⟨rfl, trivial⟩ ?_)
  (refine r_pure a_gtr rfl rfl ?_)
  refine arun_nil ?_
  refine thn_n ?_
  refine awp_cond _ rfl (fun h => ?_) (fun h => ?_)
  rotate_left
  · simp at h
  clear h
  skip
  refine awp_text (by kernel_rfl) ?_
  (refine r_pure (a_move (r := .p _)) rfl rfl ?_)
  (refine r_pure (b_fieldAddr fi66_2 rfl) rfl rfl ?_)
  (refine r_run (a_load1 Try.underlying3 rfl (by first | rfl | assumption)) rfl rfl ⟨rfl, trivial⟩ ?_)
  (refine r_callV (fun n => 28 + 1000 * n) (l2) rfl rfl Try.func94 rfl rfl (by first | rfl | simp [AV.noSl, AV.noSlL, AObj.noSl, PV.isV, bs_noSl]) (by first | rfl | simp [AV.noSl, AV.noSlL, AObj.noSl, PV.isV, bs_noSl]) rfl rfl rfl (by first | exact trivial | exact ⟨rfl, trivial⟩ | exact ⟨rfl, rfl, trivial⟩) rfl rfl rfl ?_)
  (refine r_pure (a_cat (by omega) c2) rfl rfl ?_)
  (refine r_pure (a_assign (r := .p _)) rfl rfl ?_)
  refine arun_nil ?_
  refine awp_seq (awp_seq ?_)
  refine awp_text (by kernel_rfl) ?_
  (refine r_pure (b_fieldAddr fi66_0 rfl) rfl rfl ?_)
  (refine r_run (a_load1 Try.underlying3 rfl (by first | rfl | assumption)) rfl rfl ⟨rfl, trivial⟩ ?_)
  (refine r_pure a_eql rfl rfl ?_)
  refine arun_nil ?_
  refine thn_n ?_
  refine awp_cond _ rfl (fun h => ?_) (fun h => ?_)
  · simp at h
  clear h
  refine awp_skip (awp_seq ?_)
  refine awp_text (by kernel_rfl) ?_
  (refine r_pure (a_move (r := .p _)) rfl rfl ?_)
  (refine r_pure (b_fieldAddr fi66_4 rfl) rfl rfl ?_)
  (refine r_run (a_load1 Try.underlying42 rfl (by first | rfl | assumption)) rfl rfl ⟨rfl, trivial⟩ ?_)
  (refine r_run (a_b2s Try.underlying42 Try.underlying5 Try.underlying9 (src_sl) rfl rfl) rfl rfl trivial ?_)
  (refine r_pure (a_cat (by omega) cL) rfl rfl ?_)
  (refine r_run (a_s2b 43 Try.underlying9 Try.underlying42 Try.underlying5 (by first | omega | (simp only [maxLen]; omega)) zL xL) rfl rfl ⟨rfl, trivial⟩ ?_)
  (refine r_pure (a_assign (r := .row _)) rfl rfl ?_)
  (refine r_pure (a_assign (r := .p _)) rfl rfl ?_)
  refine arun_nil ?_
  refine awp_ret ?_
  refine ⟨(by first | exact .inl rfl | exact .inr rfl), _, (fun _ => 43), (.tmp _ _ _ _ rfl (.tmp _ _ _ _ rfl .nil)), ?_, rfl, ?_, rfl⟩
  · exact rfl
  · exact ⟨⟨rfl, rfl⟩, trivial⟩

set_option maxHeartbeats 2000000 in
theorem refWBytes4_s (m : MS) (ht : m.t = 4) (hE : wE m = 0) (hx : m.xs.length = m.n) (hB : isB m.xs) (hn : m.n ≤ 300) (hs0 : 0 ≤ m.s) (hs1 : m.s ≤ 4294967295) (hr0 : 0 ≤ m.r) (hr1 : m.r ≤ 4294967295) (hc0 : 0 ≤ m.c) (hc1 : m.c ≤ 1099511627776) : Fn Try.prog 48 [.agg m.cells] (.tup [.row 0, .p (.v (.int .i64 0))]) [(0, .row 5 1 (16 + m.n) (bs ([4, 0, 0, 0] ++ leN 4 m.r.toNat ++ leN 8 m.c.toNat ++ m.xs)))] := by
  have hC := refWFault_s m (by omega)
  rw [hE] at hC
  have hT := little_s 4 4 (by omega) (by omega)
  have hLB : isB ([4, 0, 0, 0] ++ leN 4 m.r.toNat ++ leN 8 m.c.toNat ++ m.xs) := by
    intro y hy
    simp only [List.mem_append] at hy
    rcases hy with ((h0 | h1) | h2) | h3
    · simp at h0; omega
    · exact leN_B _ _ _ h1
    · exact leN_B _ _ _ h2
    · exact hB _ h3
  obtain ⟨T, S, R, C, n, xs⟩ := m
  simp only [MS.cells] at *
  subst ht
  obtain ⟨S, rfl⟩ := Int.eq_ofNat_of_zero_le hs0
  obtain ⟨R, rfl⟩ := Int.eq_ofNat_of_zero_le hr0
  obtain ⟨C, rfl⟩ := Int.eq_ofNat_of_zero_le hc0
  simp only [Int.toNat_natCast] at *
  clear hE hs0 hr0 hc0
  rw [show leN 4 4 = [4, 0, 0, 0] by decide] at hT
  have z0 : (strOfNums ([4, 0, 0, 0])).size = 4 := by rw [nums_size]; rfl
  have l1 := little_s 4 R (by omega) (by omega)
  have c1 : strOfNums ([4, 0, 0, 0]) ++ strOfNums (leN 4 R) = strOfNums ([4, 0, 0, 0] ++ leN 4 R) := str_app' _ _
  have y1 : (strOfNums (leN 4 R)).size = 4 := by rw [nums_size, leN_len]
  have z1 : (strOfNums ([4, 0, 0, 0] ++ leN 4 R)).size = 8 := by rw [nums_size]; simp [leN_len]
  have l2 := little_s 8 C (by omega) (by omega)
  have c2 : strOfNums ([4, 0, 0, 0] ++ leN 4 R) ++ strOfNums (leN 8 C) = strOfNums ([4, 0, 0, 0] ++ leN 4 R ++ leN 8 C) := str_app' _ _
  have y2 : (strOfNums (leN 8 C)).size = 8 := by rw [nums_size, leN_len]
  have z2 : (strOfNums ([4, 0, 0, 0] ++ leN 4 R ++ leN 8 C)).size = 16 := by rw [nums_size]; simp [leN_len]
  have cL : strOfNums ([4, 0, 0, 0] ++ leN 4 R ++ leN 8 C) ++ strOfNums xs = strOfNums ([4, 0, 0, 0] ++ leN 4 R ++ leN 8 C ++ xs) := str_app' _ _
  have yL : (strOfNums xs).size = n := by rw [nums_size, hx]
  have zL : (strOfNums ([4, 0, 0, 0] ++ leN 4 R ++ leN 8 C ++ xs)).size = 16 + n := by rw [nums_size, List.length_append, hx, ← nums_size, z2]
  have xL := sb_nums hLB
  refine fn_intro Try.func48 rfl (Nat.le_of_ble_eq_true rfl) fun w0 A => ?_
  refine awp_seq ?_
  refine awp_text (by kernel_rfl) ?_
  (refine r_run (a_box (X := .agg _) 1 rfl) rfl rfl ⟨rfl, trivial⟩ ?_)
  (refine r_pure (a_assign (r := .p _)) rfl rfl ?_)
  (refine r_pure (a_assign (r := .p _)) rfl rfl ?_)
  refine arun_nil ?_
  refine awp_seq (awp_seq ?_)
  refine awp_text (by kernel_rfl) ?_
  (refine r_run (a_loadN Try.underlying66 rfl sz66 (by first | exact Nat.le_of_ble_eq_true rfl | omega | (simp only [AV.cells, List.length_map]; omega)) (by first | exact take_all (by first | assumption | exact Nat.eq_of_beq_eq_true rfl | (simp only [AV.cells, List.length_map]; first | assumption | omega)) | (simp only [List.take_succ_cons, List.take_zero, List.drop_succ_cons, List.drop_zero]; rfl) | rfl)) rfl rfl ⟨rfl, trivial⟩ ?_)
  (refine r_callV (fun n => 7 + 1000 * n) (hC) rfl rfl Try.func47 rfl rfl (by first | rfl | simp [AV.noSl, AV.noSlL, AObj.noSl, PV.isV, bs_noSl]) (by first | rfl | simp [AV.noSl, AV.noSlL, AObj.noSl, PV.isV, bs_noSl]) rfl rfl rfl (by first | exact trivial | exact ⟨rfl, trivial⟩ | exact ⟨rfl, rfl, trivial⟩) rfl rfl rfl ?_)
  (refine r_pure (a_assign (r := .p _)) rfl rfl ?_)
  refine arun_nil ?_
  refine awp_seq ?_
  refine awp_text (by kernel_rfl) ?_
  (refine r_pure (a_move (r := .p _)) rfl rfl ?_)
  (refine r_pure a_neq rfl rfl ?_)
  refine arun_nil ?_
  refine thn_n ?_
  refine awp_cond _ rfl (fun h => ?_) (fun h => ?_)
  · cases h
  clear h
  refine awp_skip (awp_seq ?_)
  refine awp_text (by kernel_rfl) ?_
  (refine r_pure (b_fieldAddr fi66_0 rfl) rfl rfl ?_)
  (refine r_run (a_load1 Try.underlying3 rfl (by first | rfl | assumption)) rfl rfl ⟨rfl, trivial⟩ ?_)
  (refine r_callV (fun n => 13 + 1000 * n) (hT) rfl rfl Try.func94 rfl rfl (by first | rfl | simp [AV.noSl, AV.noSlL, AObj.noSl, PV.isV, bs_noSl]) (by first | rfl | simp [AV.noSl, AV.noSlL, AObj.noSl, PV.isV, bs_noSl]) rfl rfl rfl (by first | exact trivial | exact ⟨rfl, trivial⟩ | exact ⟨rfl, rfl, trivial⟩) rfl rfl rfl ?_)
  (refine r_pure (a_assign (r := .p _)) rfl rfl ?_)
  refine arun_nil ?_
  refine awp_seq (awp_seq ?_)
  refine awp_text (by kernel_rfl) ?_
  (refine r_pure (b_fieldAddr fi66_0 rfl) rfl rfl ?_)
  (refine r_run (a_load1 Try.underlying3 rfl (by first | rfl | assumption)) rfl rfl ⟨rfl, trivial⟩ ?_)
  (refine r_pure a_lss rfl rfl ?_)
  refine arun_nil ?_
  refine thn_n ?_
  refine awp_cond _ rfl (fun h => ?_) (fun h => ?_)
  · simp at h
  clear h
  refine awp_skip (awp_seq (awp_seq ?_))
  refine awp_text (by kernel_rfl) ?_
  (refine r_pure (b_fieldAddr fi66_0 rfl) rfl rfl ?_)
  (refine r_run (a_load1 Try.underlying3 rfl (by first | rfl | assumption)) rfl rfl ⟨rfl, trivial⟩ ?_)
  (refine r_pure a_gtr rfl rfl ?_)
  refine arun_nil ?_
  refine thn_n ?_
  refine awp_cond _ rfl (fun h => ?_) (fun h => ?_)
  rotate_left
  · simp at h
  clear h
  skip
  refine awp_text (by kernel_rfl) ?_
  (refine r_pure (a_move (r := .p _)) rfl rfl ?_)
  (refine r_pure (b_fieldAddr fi66_2 rfl) rfl rfl ?_)
  (refine r_run (a_load1 Try.underlying3 rfl (by first | rfl | assumption)) rfl rfl ⟨rfl, trivial⟩ ?_)
  (refine r_callV (fun n => 28 + 1000 * n) (l1) rfl rfl Try.func94 rfl rfl (by first | rfl | simp [AV.noSl, AV.noSlL, AObj.noSl, PV.isV, bs_noSl]) (by first | rfl | simp [AV.noSl, AV.noSlL, AObj.noSl, PV.isV, bs_noSl]) rfl rfl rfl (by first | exact trivial | exact ⟨rfl, trivial⟩ | exact ⟨rfl, rfl, trivial⟩) rfl rfl rfl ?_)
  (refine r_pure (a_cat (by omega) c1) rfl rfl ?_)
  (refine r_pure (a_assign (r := .p _)) rfl rfl ?_)
  refine arun_nil ?_
  refine awp_seq (awp_seq ?_)
  refine awp_text (by kernel_rfl) ?_
  (refine r_pure (b_fieldAddr fi66_0 rfl) rfl rfl ?_)
  (refine r_run (a_load1 Try.underlying3 rfl (by first | rfl | assumption)) rfl rfl ⟨rfl, trivial⟩ ?_)
  (refine r_pure a_eql rfl rfl ?_)
  refine arun_nil ?_
  refine thn_n ?_
  refine awp_cond _ rfl (fun h => ?_) (fun h => ?_)
  rotate_left
  · simp at h
  clear h
  skip
  refine awp_text (by kernel_rfl) ?_
  (refine r_pure (a_move (r := .p _)) rfl rfl ?_)
  (refine r_pure (b_fieldAddr fi66_3 rfl) rfl rfl ?_)
  (refine r_run (a_load1 Try.underlying3 rfl (by first | rfl | assumption)) rfl rfl ⟨rfl, trivial⟩ ?_)
  (refine r_callV (fun n => 36 + 1000 * n) (l2) rfl rfl Try.func94 rfl rfl (by first | rfl | simp [AV.noSl, AV.noSlL, AObj.noSl, PV.isV, bs_noSl]) (by first | rfl | simp [AV.noSl, AV.noSlL, AObj.noSl, PV.isV, bs_noSl]) rfl rfl rfl (by first | exact trivial | exact ⟨rfl, trivial⟩ | exact ⟨rfl, rfl, trivial⟩) rfl rfl rfl ?_)
  (refine r_pure (a_cat (by omega) c2) rfl rfl ?_)
  (refine r_pure (a_assign (r := .p _)) rfl rfl ?_)
  refine arun_nil ?_
  refine awp_seq ?_
  refine awp_text (by kernel_rfl) ?_
  (refine r_pure (a_move (r := .p _)) rfl rfl ?_)
  (refine r_pure (b_fieldAddr fi66_4 rfl) rfl rfl ?_)
  (refine r_run (a_load1 Try.underlying42 rfl (by first | rfl | assumption)) rfl rfl ⟨rfl, trivial⟩ ?_)
  (refine r_run (a_b2s Try.underlying42 Try.underlying5 Try.underlying9 (src_sl) rfl rfl) rfl rfl trivial ?_)
  (refine r_pure (a_cat (by omega) cL) rfl rfl ?_)
  (refine r_run (a_s2b 43 Try.underlying9 Try.underlying42 Try.underlying5 (by first | omega | (simp only [maxLen]; omega)) zL xL) rfl rfl ⟨rfl, trivial⟩ ?_)
  (refine r_pure (a_assign (r := .row _)) rfl rfl ?_)
  (refine r_pure (a_assign (r := .p _)) rfl rfl ?_)
  refine arun_nil ?_
  refine awp_ret ?_
  refine ⟨(by first | exact .inl rfl | exact .inr rfl), _, (fun _ => 43), (.tmp _ _ _ _ rfl (.tmp _ _ _ _ rfl .nil)), ?_, rfl, ?_, rfl⟩
  · exact rfl
  · exact ⟨⟨rfl, rfl⟩, trivial⟩

end Go.Proofs.Ytfnipohlkifkhaa
