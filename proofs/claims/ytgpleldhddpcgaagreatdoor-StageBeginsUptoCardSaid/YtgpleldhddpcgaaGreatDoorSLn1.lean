/- line.Check and the reference's LineFault, over data. -/
import Derived.Test.YtgpleldhddpcgaaGreatDoorSUtZ
import Derived.Test.YtgpleldhddpcgaaGreatDoorSNuZ
namespace Go.Proofs.YtgpleldhddpcgaaGreatDoor
open Go.RowKit Go.Sort
set_option linter.unusedVariables false
set_option linter.unusedSimpArgs false
set_option maxRecDepth 100000
abbrev LnP := ByteArray × ByteArray
def badK (c : Int) : Bool := (decide (c < 97) || decide (122 < c)) && (c != 95)
def badV (c : Int) : Bool := decide (c ≤ 32) || decide (126 < c)
def anyAt (p : Int → Bool) (s : ByteArray) : Bool := (List.range s.size).any fun i => p (sAt s i)
theorem anyAt_true {p : Int → Bool} {s : ByteArray} {i : Nat} (hi : i < s.size) (h : p (sAt s i) = true) : anyAt p s = true := by
  unfold anyAt; rw [List.any_eq_true]; exact ⟨i, by simpa using hi, h⟩
theorem anyAt_false {p : Int → Bool} {s : ByteArray} (h : ∀ j, j < s.size → p (sAt s j) = false) : anyAt p s = false := by
  unfold anyAt; rw [List.any_eq_false]; intro i hi; rw [h i (by simpa using hi)]; simp
def lineSz (k v : ByteArray) : Bool := (decide ((k.size : Int) < 1) || decide (30 < (k.size : Int))) || decide (70 < (v.size : Int))
def lineE (k v : ByteArray) : Int := if lineSz k v = true then 1 else if anyAt badK k = true then 3 else if anyAt badV v = true then 3 else 0
def lnC (p : ByteArray × ByteArray) : List PV := [.v (.string p.1), .v (.string p.2)]
def lnA (k v : ByteArray) : List AV := [.p (.v (.string k)), .p (.v (.string v))]
set_option maxHeartbeats 2000000 in
theorem lcheck_s (k v : ByteArray) (hk : k.size ≤ 140737488351232) (hv : v.size ≤ 140737488351232) : Fn Tryz.prog 110 [.agg (lnA k v)] (.p (.v (.int .i64 (lineE k v)))) [] := by
  unfold lineE
  refine fn_intro Tryz.func110 rfl (Nat.le_of_ble_eq_true rfl) fun w0 A => ?_
  refine awp_seq ?_
  refine tx ?_
  refine r_run (a_box (X := .agg _) 1 rfl) rfl rfl ⟨rfl, trivial⟩ ?_
  refine aP rfl rfl ?_
  refine arun_nil ?_
  refine awp_seq (awp_seq ?_)
  refine tx ?_
  refine fA fi111_0 rfl rfl ?_
  refine l1 Tryz.underlying9 rfl rfl rfl ⟨rfl, trivial⟩ ?_
  refine r_pure (a_lenStr Tryz.underlying9) rfl rfl ?_
  refine r_pure a_lss rfl rfl ?_
  refine mP rfl rfl ?_
  refine mb2 _ rfl rfl (fun hb => (b_fieldAddr fi111_0 rfl)) (fun _ => trivial) ?_
  refine mb2 _ rfl rfl (fun hb => (a_load1 Tryz.underlying9 rfl (by first | rfl | assumption))) (fun _ => ⟨rfl, trivial⟩) ?_
  refine mb2 _ rfl rfl (fun hb => (a_lenStr Tryz.underlying9)) (fun _ => trivial) ?_
  refine mb2 _ rfl rfl (fun hb => a_gtr) (fun _ => trivial) ?_
  refine r_pure (a_or (by first | exact id | (simp; done) | grind)) rfl rfl ?_
  refine mP rfl rfl ?_
  refine mb2 _ rfl rfl (fun hb => (b_fieldAddr fi111_1 rfl)) (fun _ => trivial) ?_
  refine mb2 _ rfl rfl (fun hb => (a_load1 Tryz.underlying9 rfl (by first | rfl | assumption))) (fun _ => ⟨rfl, trivial⟩) ?_
  refine mb2 _ rfl rfl (fun hb => (a_lenStr Tryz.underlying9)) (fun _ => trivial) ?_
  refine mb2 _ rfl rfl (fun hb => a_gtr) (fun _ => trivial) ?_
  refine r_pure (a_or (by first | exact id | (simp; done) | grind)) rfl rfl ?_
  refine arun_nil ?_
  refine thn_n ?_
  refine awp_cond _ rfl (fun h => ?_) (fun h => ?_)
  · rw [if_pos (show lineSz k v = true from h)]
    refine awp_seq ?_
    refine tx ?_
    refine aP rfl rfl ?_
    refine arun_nil ?_
    refine awp_ret (thn_r ?_)
    refine fT (fun o => o) (.tmp _ _ _ _ rfl .nil) ?_ ?_
    · exact rfl
    · exact trivial
  rw [if_neg (show ¬ lineSz k v = true by have h' : lineSz k v = false := h; simp [h'])]
  clear h
  refine awp_skip (awp_seq (awp_seq ?_))
  refine tx ?_
  refine fA fi111_0 rfl rfl ?_
  refine l1 Tryz.underlying9 rfl rfl rfl ⟨rfl, trivial⟩ ?_
  refine r_pure (a_lenStr Tryz.underlying9) rfl rfl ?_
  refine mP rfl rfl ?_
  refine arun_nil ?_
  refine awp_block ?_
  refine awp_loopR (fun m st => ∃ i : Nat, m + i = k.size ∧ (∀ j, j < i → badK (sAt k j) = false) ∧ st = St.of [(1, .ref 1 0), (25, .p (.v (.int .i64 k.size))), (26, .p (.v (.int .i64 i)))] [(1, .box 111 (lnA k v))]) k.size ?_ ?_
  · refine ⟨_, re_of id _ _ ?_ ?_ rfl, 0, by omega, by omega, rfl⟩
    · (repeat (first | exact trivial | (refine ⟨⟨(by first | rfl | (simp; done) | (simp; omega)), rfl⟩, ?_⟩)))
    · exact ⟨⟨rfl, rfl⟩, trivial⟩
  rintro m st ⟨i, hi, hf, rfl⟩
  refine awp_seq ?_
  refine tx ?_
  refine r_pure a_lss rfl rfl ?_
  refine arun_nil ?_
  refine awp_seq ?_
  refine awp_cond _ rfl (fun h => ?_) (fun h => ?_)
  · have hlt : i < k.size := by simp at h; omega
    clear h
    have g1 := sAt_get hlt
    have hat := @anyAt_true badK k i hlt
    have hb := sAt_B hlt
    generalize hc : sAt k i = c at *
    refine awp_skip (awp_seq (awp_block (awp_seq ?_)))
    refine tx ?_
    refine mP rfl rfl ?_
    refine aP rfl rfl ?_
    refine arun_nil ?_
    refine awp_seq ?_
    refine tx ?_
    refine fA fi111_0 rfl rfl ?_
    refine l1 Tryz.underlying9 rfl rfl rfl ⟨rfl, trivial⟩ ?_
    refine mP rfl rfl ?_
    refine r_pure (a_indexStr Tryz.underlying9 (by omega) (by rw [Int.toNat_natCast]; exact g1)) rfl rfl ?_
    refine aP rfl rfl ?_
    refine arun_nil ?_
    refine awp_seq ?_
    refine tx ?_
    refine mP rfl rfl ?_
    refine r_pure a_lss rfl rfl ?_
    refine mP rfl rfl ?_
    refine mb2 _ rfl rfl (fun hb => (a_move (r := .p _))) (fun _ => trivial) ?_
    refine mb2 _ rfl rfl (fun hb => a_gtr) (fun _ => trivial) ?_
    refine r_pure (a_or (by first | exact id | (simp; done) | grind)) rfl rfl ?_
    refine mP rfl rfl ?_
    refine mb2 _ rfl rfl (fun hb => (a_move (r := .p _))) (fun _ => trivial) ?_
    refine mb2 _ rfl rfl (fun hb => a_neq) (fun _ => trivial) ?_
    refine r_pure (a_and (by first | exact id | (simp; done) | grind)) rfl rfl ?_
    refine arun_nil ?_
    refine thn_n ?_
    refine awp_cond _ rfl (fun h => ?_) (fun h => ?_)
    · rw [if_pos (hat h)]
      refine awp_seq ?_
      refine tx ?_
      refine aP rfl rfl ?_
      refine arun_nil ?_
      refine awp_ret (inb_r (thn_r (thn_r (inb_r (thn_r ?_)))))
      refine fT (fun o => o) (.tmp _ _ _ _ rfl .nil) ?_ ?_
      · exact rfl
      · exact trivial
    · have h1 : badK c = false := h
      refine awp_skip (inb_n (thn_n ?_))
      refine tx ?_
      refine r_pure (a_add (by first | exact IntWalk.i64_in _ (by omega) | rfl)) rfl rfl ?_
      refine mP rfl rfl ?_
      refine arun_nil ?_
      refine thn_n ?_
      refine ⟨m - 1, by omega, _, re_of id _ _ ?_ ?_ rfl, i + 1, by omega, ?_, rfl⟩
      · (repeat (first | exact trivial | (refine ⟨⟨(by first | rfl | (simp; done) | (simp; omega)), rfl⟩, ?_⟩)))
      · exact ⟨⟨rfl, rfl⟩, trivial⟩
      · intro j hj
        by_cases e : j = i
        · subst e; rw [hc]; exact h1
        · exact hf j (by omega)
  have hge : i = k.size := by simp at h; omega
  clear h
  subst hge
  rw [if_neg (by rw [anyAt_false hf]; simp)]
  refine awp_exit (awp_seq (awp_seq ?_))
  refine tx ?_
  refine fA fi111_1 rfl rfl ?_
  refine l1 Tryz.underlying9 rfl rfl rfl ⟨rfl, trivial⟩ ?_
  refine r_pure (a_lenStr Tryz.underlying9) rfl rfl ?_
  refine mP rfl rfl ?_
  refine arun_nil ?_
  refine awp_block ?_
  refine awp_loopR (fun m st => ∃ i : Nat, m + i = v.size ∧ (∀ j, j < i → badV (sAt v j) = false) ∧ st = St.of [(1, .ref 1 0), (46, .p (.v (.int .i64 v.size))), (47, .p (.v (.int .i64 i)))] [(1, .box 111 (lnA k v))]) v.size ?_ ?_
  · refine ⟨_, re_of id _ _ ?_ ?_ rfl, 0, by omega, by omega, rfl⟩
    · (repeat (first | exact trivial | (refine ⟨⟨(by first | rfl | (simp; done) | (simp; omega)), rfl⟩, ?_⟩)))
    · exact ⟨⟨rfl, rfl⟩, trivial⟩
  rintro m st ⟨i, hi, hf, rfl⟩
  refine awp_seq ?_
  refine tx ?_
  refine r_pure a_lss rfl rfl ?_
  refine arun_nil ?_
  refine awp_seq ?_
  refine awp_cond _ rfl (fun h => ?_) (fun h => ?_)
  · have hlt : i < v.size := by simp at h; omega
    clear h
    have g1 := sAt_get hlt
    have hat := @anyAt_true badV v i hlt
    have hb := sAt_B hlt
    generalize hc : sAt v i = c at *
    refine awp_skip (awp_seq (awp_block (awp_seq ?_)))
    refine tx ?_
    refine mP rfl rfl ?_
    refine aP rfl rfl ?_
    refine arun_nil ?_
    refine awp_seq ?_
    refine tx ?_
    refine fA fi111_1 rfl rfl ?_
    refine l1 Tryz.underlying9 rfl rfl rfl ⟨rfl, trivial⟩ ?_
    refine mP rfl rfl ?_
    refine r_pure (a_indexStr Tryz.underlying9 (by omega) (by rw [Int.toNat_natCast]; exact g1)) rfl rfl ?_
    refine aP rfl rfl ?_
    refine arun_nil ?_
    refine awp_seq ?_
    refine tx ?_
    refine mP rfl rfl ?_
    refine r_pure a_leq rfl rfl ?_
    refine mP rfl rfl ?_
    refine mb2 _ rfl rfl (fun hb => (a_move (r := .p _))) (fun _ => trivial) ?_
    refine mb2 _ rfl rfl (fun hb => a_gtr) (fun _ => trivial) ?_
    refine r_pure (a_or (by first | exact id | (simp; done) | grind)) rfl rfl ?_
    refine arun_nil ?_
    refine thn_n ?_
    refine awp_cond _ rfl (fun h => ?_) (fun h => ?_)
    · rw [if_pos (hat h)]
      refine awp_seq ?_
      refine tx ?_
      refine aP rfl rfl ?_
      refine arun_nil ?_
      refine awp_ret (inb_r (thn_r (thn_r (inb_r (thn_r ?_)))))
      refine fT (fun o => o) (.tmp _ _ _ _ rfl .nil) ?_ ?_
      · exact rfl
      · exact trivial
    · have h1 : badV c = false := h
      refine awp_skip (inb_n (thn_n ?_))
      refine tx ?_
      refine r_pure (a_add (by first | exact IntWalk.i64_in _ (by omega) | rfl)) rfl rfl ?_
      refine mP rfl rfl ?_
      refine arun_nil ?_
      refine thn_n ?_
      refine ⟨m - 1, by omega, _, re_of id _ _ ?_ ?_ rfl, i + 1, by omega, ?_, rfl⟩
      · (repeat (first | exact trivial | (refine ⟨⟨(by first | rfl | (simp; done) | (simp; omega)), rfl⟩, ?_⟩)))
      · exact ⟨⟨rfl, rfl⟩, trivial⟩
      · intro j hj
        by_cases e : j = i
        · subst e; rw [hc]; exact h1
        · exact hf j (by omega)
  have hge : i = v.size := by simp at h; omega
  clear h
  subst hge
  rw [if_neg (by rw [anyAt_false hf]; simp)]
  refine awp_exit (awp_seq ?_)
  refine tx ?_
  refine aP rfl rfl ?_
  refine arun_nil ?_
  refine awp_ret ?_
  refine fT (fun o => o) (.tmp _ _ _ _ rfl .nil) ?_ ?_
  · exact rfl
  · exact trivial
set_option maxHeartbeats 2000000 in
theorem refLFault_s (k v : ByteArray) (hk : k.size ≤ 140737488351232) (hv : v.size ≤ 140737488351232) : Fn Tryz.prog 116 [.agg (lnA k v)] (.p (.v (.int .i64 (lineE k v)))) [] := by
  unfold lineE
  have hsz : lineSz k v = ((decide (k = ⟨#[]⟩) || decide (30 < (k.size : Int))) || decide (70 < (v.size : Int))) := by
    unfold lineSz
    rw [show decide ((k.size : Int) < 1) = decide (k = ⟨#[]⟩) from decide_eq_decide.2 ⟨fun h => ByteArray.size_eq_zero_iff.1 (by omega), fun h => by rw [h]; decide⟩]
  have lk : (bs (sb k)).length = k.size := by rw [bs_length, sb_length]
  have lv : (bs (sb v)).length = v.size := by rw [bs_length, sb_length]
  refine fn_intro Tryz.func116 rfl (Nat.le_of_ble_eq_true rfl) fun w0 A => ?_
  refine awp_seq ?_
  refine tx ?_
  refine r_run (a_box (X := .agg _) 1 rfl) rfl rfl ⟨rfl, trivial⟩ ?_
  refine aP rfl rfl ?_
  refine arun_nil ?_
  refine awp_seq (awp_seq ?_)
  refine tx ?_
  refine fA fi111_0 rfl rfl ?_
  refine l1 Tryz.underlying9 rfl rfl rfl ⟨rfl, trivial⟩ ?_
  refine r_pure a_seql rfl rfl ?_
  refine mP rfl rfl ?_
  refine mb2 _ rfl rfl (fun hb => (b_fieldAddr fi111_0 rfl)) (fun _ => trivial) ?_
  refine mb2 _ rfl rfl (fun hb => (a_load1 Tryz.underlying9 rfl (by first | rfl | assumption))) (fun _ => ⟨rfl, trivial⟩) ?_
  refine mb2 _ rfl rfl (fun hb => (a_lenStr Tryz.underlying9)) (fun _ => trivial) ?_
  refine mb2 _ rfl rfl (fun hb => a_gtr) (fun _ => trivial) ?_
  refine r_pure (a_or (by first | exact id | (simp; done) | grind)) rfl rfl ?_
  refine mP rfl rfl ?_
  refine mb2 _ rfl rfl (fun hb => (b_fieldAddr fi111_1 rfl)) (fun _ => trivial) ?_
  refine mb2 _ rfl rfl (fun hb => (a_load1 Tryz.underlying9 rfl (by first | rfl | assumption))) (fun _ => ⟨rfl, trivial⟩) ?_
  refine mb2 _ rfl rfl (fun hb => (a_lenStr Tryz.underlying9)) (fun _ => trivial) ?_
  refine mb2 _ rfl rfl (fun hb => a_gtr) (fun _ => trivial) ?_
  refine r_pure (a_or (by first | exact id | (simp; done) | grind)) rfl rfl ?_
  refine arun_nil ?_
  refine thn_n ?_
  refine awp_cond _ rfl (fun h => ?_) (fun h => ?_)
  · rw [if_pos (hsz.trans h)]
    refine awp_seq ?_
    refine tx ?_
    refine aP rfl rfl ?_
    refine arun_nil ?_
    refine awp_ret (thn_r ?_)
    refine fT (fun o => o) (.tmp _ _ _ _ rfl .nil) ?_ ?_
    · exact rfl
    · exact trivial
  rw [if_neg (by rw [hsz.trans h]; simp)]
  clear h hsz
  refine awp_skip (awp_seq (awp_seq ?_))
  refine tx ?_
  refine fA fi111_0 rfl rfl ?_
  refine l1 Tryz.underlying9 rfl rfl rfl ⟨rfl, trivial⟩ ?_
  refine r_run (a_s2b 24 Tryz.underlying9 Tryz.underlying89 Tryz.underlying5 (by first | omega | (simp only [maxLen]; omega)) rfl rfl) rfl rfl ⟨rfl, trivial⟩ ?_
  refine r_run (a_lenR Tryz.underlying89) rfl rfl ⟨rfl, trivial⟩ ?_
  refine mP rfl rfl ?_
  refine arun_nil ?_
  refine awp_block ?_
  refine awp_loopR (fun m st => ∃ i : Nat, m + i = k.size ∧ (∀ j, j < i → badK (sAt k j) = false) ∧ st = St.of [(1, .ref 1 0), (24, .row 24), (25, .p (.v (.int .i64 k.size))), (26, .p (.v (.int .i64 i)))] [(1, .box 111 (lnA k v)), (24, .row 5 1 k.size (bs (sb k)))]) k.size ?_ ?_
  · refine ⟨_, re_of id _ _ ?_ ?_ rfl, 0, by omega, by omega, rfl⟩
    · (repeat (first | exact trivial | (refine ⟨⟨(by first | rfl | (simp; done) | (simp; omega)), rfl⟩, ?_⟩)))
    · exact ⟨⟨rfl, rfl⟩, ⟨rfl, rfl⟩, trivial⟩
  rintro m st ⟨i, hi, hf, rfl⟩
  refine awp_seq ?_
  refine tx ?_
  refine r_pure a_lss rfl rfl ?_
  refine arun_nil ?_
  refine awp_seq ?_
  refine awp_cond _ rfl (fun h => ?_) (fun h => ?_)
  · have hlt : i < k.size := by simp at h; omega
    clear h
    have g1 := bs_at (sb_at hlt)
    have hat := @anyAt_true badK k i hlt
    have hb := sAt_B hlt
    generalize hc : sAt k i = c at *
    refine awp_skip (awp_seq (awp_block (awp_seq ?_)))
    refine tx ?_
    refine r_run (a_indexAddrR Tryz.underlying89 sz5 (by omega) (by omega) (show _ = i by omega)) rfl rfl ⟨rfl, trivial⟩ ?_
    refine r_run (a_load1r Tryz.underlying5 rfl (by first | rfl | assumption | ((try simp only [List.getElem?_drop, List.getElem?_take, Int.toNat_natCast, Nat.mul_one, Nat.add_zero, Nat.zero_add]); first | assumption | rfl))) rfl rfl ⟨rfl, trivial⟩ ?_
    refine aP rfl rfl ?_
    refine arun_nil ?_
    refine awp_seq ?_
    refine tx ?_
    refine mP rfl rfl ?_
    refine r_pure a_neq rfl rfl ?_
    refine mP rfl rfl ?_
    refine mb2 _ rfl rfl (fun hb => (a_move (r := .p _))) (fun _ => trivial) ?_
    refine mb2 _ rfl rfl (fun hb => a_lss) (fun _ => trivial) ?_
    refine mb2 _ rfl rfl (fun hb => (a_move (r := .p _))) (fun _ => trivial) ?_
    refine mb2 _ rfl rfl (fun hb => (a_move (r := .p _))) (fun _ => trivial) ?_
    refine mb2 _ rfl rfl (fun hb => a_gtr) (fun _ => trivial) ?_
    refine r_mb3 _ rfl rfl (.mb _ _ _ _ (by first | exact id | simp_all) (.keep _ _ _ (.keep _ _ _ .nil))) (fun hb => (a_or (by first | exact id | (simp_all; done) | grind))) (fun _ => trivial) ?_
    refine r_pure (a_and (by first | exact id | (simp; done) | grind)) rfl rfl ?_
    refine arun_nil ?_
    have hcm : ((c != 95) && (decide (c < 97) || decide (122 < c))) = badK c := by unfold badK; rw [Bool.and_comm]
    rw [hcm]
    refine thn_n ?_
    refine awp_cond _ rfl (fun h => ?_) (fun h => ?_)
    · rw [if_pos (hat h)]
      refine awp_seq ?_
      refine tx ?_
      refine aP rfl rfl ?_
      refine arun_nil ?_
      refine awp_ret (inb_r (thn_r (thn_r (inb_r (thn_r ?_)))))
      refine fT (fun o => o) (.tmp _ _ _ _ rfl .nil) ?_ ?_
      · exact rfl
      · exact trivial
    · refine awp_skip (inb_n (thn_n ?_))
      refine tx ?_
      refine r_pure (a_add (by first | exact IntWalk.i64_in _ (by omega) | rfl)) rfl rfl ?_
      refine mP rfl rfl ?_
      refine arun_nil ?_
      refine thn_n ?_
      refine ⟨m - 1, by omega, _, re_of id _ _ ?_ ?_ rfl, i + 1, by omega, ?_, rfl⟩
      · (repeat (first | exact trivial | (refine ⟨⟨(by first | rfl | (simp; done) | (simp; omega)), rfl⟩, ?_⟩)))
      · exact ⟨⟨rfl, rfl⟩, ⟨rfl, rfl⟩, trivial⟩
      · intro j hj
        by_cases e : j = i
        · subst e; rw [hc]; exact h
        · exact hf j (by omega)
  have hge : i = k.size := by simp at h; omega
  clear h
  subst hge
  rw [if_neg (by rw [anyAt_false hf]; simp)]
  refine awp_exit (awp_seq (awp_seq ?_))
  refine tx ?_
  refine fA fi111_1 rfl rfl ?_
  refine l1 Tryz.underlying9 rfl rfl rfl ⟨rfl, trivial⟩ ?_
  refine r_run (a_s2b 43 Tryz.underlying9 Tryz.underlying89 Tryz.underlying5 (by first | omega | (simp only [maxLen]; omega)) rfl rfl) rfl rfl ⟨rfl, trivial⟩ ?_
  refine r_run (a_lenR Tryz.underlying89) rfl rfl ⟨rfl, trivial⟩ ?_
  refine mP rfl rfl ?_
  refine arun_nil ?_
  refine awp_block ?_
  refine awp_loopR (fun m st => ∃ i : Nat, m + i = v.size ∧ (∀ j, j < i → badV (sAt v j) = false) ∧ st = St.of [(43, .row 43), (44, .p (.v (.int .i64 v.size))), (45, .p (.v (.int .i64 i)))] [(43, .row 5 1 v.size (bs (sb v)))]) v.size ?_ ?_
  · refine ⟨_, re_of id _ _ ?_ ?_ rfl, 0, by omega, by omega, rfl⟩
    · (repeat (first | exact trivial | (refine ⟨⟨(by first | rfl | (simp; done) | (simp; omega)), rfl⟩, ?_⟩)))
    · exact ⟨⟨rfl, rfl⟩, trivial⟩
  rintro m st ⟨i, hi, hf, rfl⟩
  refine awp_seq ?_
  refine tx ?_
  refine r_pure a_lss rfl rfl ?_
  refine arun_nil ?_
  refine awp_seq ?_
  refine awp_cond _ rfl (fun h => ?_) (fun h => ?_)
  · have hlt : i < v.size := by simp at h; omega
    clear h
    have g1 := bs_at (sb_at hlt)
    have hat := @anyAt_true badV v i hlt
    have hb := sAt_B hlt
    generalize hc : sAt v i = c at *
    refine awp_skip (awp_seq (awp_block (awp_seq ?_)))
    refine tx ?_
    refine r_run (a_indexAddrR Tryz.underlying89 sz5 (by omega) (by omega) (show _ = i by omega)) rfl rfl ⟨rfl, trivial⟩ ?_
    refine r_run (a_load1r Tryz.underlying5 rfl (by first | rfl | assumption | ((try simp only [List.getElem?_drop, List.getElem?_take, Int.toNat_natCast, Nat.mul_one, Nat.add_zero, Nat.zero_add]); first | assumption | rfl))) rfl rfl ⟨rfl, trivial⟩ ?_
    refine aP rfl rfl ?_
    refine arun_nil ?_
    refine awp_seq ?_
    refine tx ?_
    refine mP rfl rfl ?_
    refine r_pure a_lss rfl rfl ?_
    refine mP rfl rfl ?_
    refine mb2 _ rfl rfl (fun hb => (a_move (r := .p _))) (fun _ => trivial) ?_
    refine mb2 _ rfl rfl (fun hb => a_gtr) (fun _ => trivial) ?_
    refine r_pure (a_or (by first | exact id | (simp; done) | grind)) rfl rfl ?_
    refine arun_nil ?_
    have hcm : (decide (c < 33) || decide (126 < c)) = badV c := by
      unfold badV; rw [show decide (c < 33) = decide (c ≤ 32) from decide_eq_decide.2 (by omega)]
    rw [hcm]
    refine thn_n ?_
    refine awp_cond _ rfl (fun h => ?_) (fun h => ?_)
    · rw [if_pos (hat h)]
      refine awp_seq ?_
      refine tx ?_
      refine aP rfl rfl ?_
      refine arun_nil ?_
      refine awp_ret (inb_r (thn_r (thn_r (inb_r (thn_r ?_)))))
      refine fT (fun o => o) (.tmp _ _ _ _ rfl .nil) ?_ ?_
      · exact rfl
      · exact trivial
    · refine awp_skip (inb_n (thn_n ?_))
      refine tx ?_
      refine r_pure (a_add (by first | exact IntWalk.i64_in _ (by omega) | rfl)) rfl rfl ?_
      refine mP rfl rfl ?_
      refine arun_nil ?_
      refine thn_n ?_
      refine ⟨m - 1, by omega, _, re_of id _ _ ?_ ?_ rfl, i + 1, by omega, ?_, rfl⟩
      · (repeat (first | exact trivial | (refine ⟨⟨(by first | rfl | (simp; done) | (simp; omega)), rfl⟩, ?_⟩)))
      · exact ⟨⟨rfl, rfl⟩, trivial⟩
      · intro j hj
        by_cases e : j = i
        · subst e; rw [hc]; exact h
        · exact hf j (by omega)
  have hge : i = v.size := by simp at h; omega
  clear h
  subst hge
  rw [if_neg (by rw [anyAt_false hf]; simp)]
  refine awp_exit (awp_seq ?_)
  refine tx ?_
  refine aP rfl rfl ?_
  refine arun_nil ?_
  refine awp_ret ?_
  refine fT (fun o => o) (.tmp _ _ _ _ rfl .nil) ?_ ?_
  · exact rfl
  · exact trivial
end Go.Proofs.YtgpleldhddpcgaaGreatDoor
