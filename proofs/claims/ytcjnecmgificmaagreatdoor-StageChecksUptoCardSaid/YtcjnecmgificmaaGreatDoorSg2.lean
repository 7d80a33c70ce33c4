/- The reference's StageFault, over data. -/
import Derived.Test.YtcjnecmgificmaaGreatDoorSg1
--%T
namespace Go.Proofs.YtcjnecmgificmaaGreatDoor
open Go.RowKit Go.Sort
set_option linter.unusedVariables false
set_option linter.unusedSimpArgs false
set_option maxRecDepth 100000

theorem app_empty (a b : ByteArray) : (a ++ b = ⟨#[]⟩) ↔ (a = ⟨#[]⟩ ∧ b = ⟨#[]⟩) := by
  constructor
  · intro h
    have hs := congrArg ByteArray.size h
    rw [ByteArray.size_append] at hs
    have h0 : (ByteArray.mk #[]).size = 0 := rfl
    rw [h0] at hs
    have f : ∀ x : ByteArray, x.size = 0 → x = ⟨#[]⟩ := fun x hx => by
      obtain ⟨d⟩ := x
      have : d = #[] := Array.eq_empty_of_size_eq_zero hx
      rw [this]
    exact ⟨f a (by omega), f b (by omega)⟩
  · rintro ⟨rfl, rfl⟩
    rfl
set_option maxHeartbeats 4000000 in
theorem refStage_s (s : SG) (ok : s.OK) : Fn Tryz.prog 22 [.agg s.cells] (.p (.v (.int .i64 (sgE s)))) [] := by
  obtain ⟨lv, rest, c, at_, err⟩ := s
  obtain ⟨okr, hl, okc, haz, hkz⟩ := ok
  dsimp only at okr hl okc haz hkz
  obtain ⟨E, hE⟩ : ∃ E, sgE ⟨lv, rest, c, at_, err⟩ = E := ⟨_, rfl⟩
  rw [hE]
  unfold sgE at hE
  dsimp only at hE
  have hCf := refConf_s c okc
  have hK := refFault_s at_
  have hrE : restE rest = fnz (fun i => seE (seG rest i)) rest.length := rfl
  have hpl := okc.len
  generalize cfE c = ce at *
  generalize keyE at_ = k1 at *
  obtain ⟨key, port, ps⟩ := c
  dsimp only at hE hpl hkz
  change Fn Tryz.prog _ [.agg [.p (.v (.string key)), .p (.v (.int .i64 port)), .p (.sl ps.length 5 (ps.flatMap PE.pv))]] _ _ at hCf
  show Fn Tryz.prog _ [.agg (sgC lv rest.length (rest.flatMap SE.pv) key port ps.length (ps.flatMap PE.pv) at_ err)] _ _
  clear okc
  generalize ps.flatMap PE.pv = L at *
  generalize ps.length = M at *
  refine fn_intro Tryz.func22 rfl (Nat.le_of_ble_eq_true rfl) fun w0 A => ?_
  refine awp_seq ?_
  refine tx ?_
  refine r_run (a_box (X := .agg _) 1 rfl) rfl rfl ⟨rfl, trivial⟩ ?_
  refine aP rfl rfl ?_
  refine arun_nil ?_
  refine awp_seq (awp_seq ?_)
  refine tx ?_
  refine fA fi46_0 rfl rfl ?_
  refine l1 Tryz.underlying4 rfl rfl rfl ⟨rfl, trivial⟩ ?_
  refine r_pure a_not rfl rfl ?_
  refine arun_nil ?_
  refine thn_n ?_
  refine awp_cond _ rfl (fun h => ?_) (fun h => ?_)
  · have h0 : lv = false := by simpa using h
    clear h
    rw [if_pos h0] at hE
    refine awp_seq (awp_seq ?_)
    refine tx ?_
    refine fA fi46_1 rfl rfl ?_
    refine l1 Tryz.underlying28 rfl rfl rfl ⟨rfl, trivial⟩ ?_
    refine r_pure (a_lenS Tryz.underlying28) rfl rfl ?_
    refine fA fi46_2 rfl rfl ?_
    refine fA fi27_2 rfl rfl ?_
    refine l1 Tryz.underlying25 rfl rfl rfl ⟨rfl, trivial⟩ ?_
    refine r_pure (a_lenS Tryz.underlying25) rfl rfl ?_
    refine r_pure (a_add (by first | exact IntWalk.i64_in _ (by omega) | rfl)) rfl rfl ?_
    refine r_pure a_gtr rfl rfl ?_
    refine mP rfl rfl ?_
    refine mb2 _ rfl rfl (fun hb => (b_fieldAddr fi46_2 rfl)) (fun _ => trivial) ?_
    refine mb2 _ rfl rfl (fun hb => (b_fieldAddr fi27_1 rfl)) (fun _ => trivial) ?_
    refine mb2 _ rfl rfl (fun hb => (a_load1 Tryz.underlying3 rfl (by first | rfl | assumption))) (fun _ => ⟨rfl, trivial⟩) ?_
    refine mb2 _ rfl rfl (fun hb => a_neq) (fun _ => trivial) ?_
    refine r_pure (a_or (by first | exact id | (simp; done) | grind)) rfl rfl ?_
    refine mP rfl rfl ?_
    refine mb2 _ rfl rfl (fun hb => (b_fieldAddr fi46_3 rfl)) (fun _ => trivial) ?_
    refine mb2 _ rfl rfl (fun hb => (a_load1 Tryz.underlying9 rfl (by first | rfl | assumption))) (fun _ => ⟨rfl, trivial⟩) ?_
    refine mb2 _ rfl rfl (fun hb => (b_fieldAddr fi46_2 rfl)) (fun _ => trivial) ?_
    refine mb2 _ rfl rfl (fun hb => (b_fieldAddr fi27_0 rfl)) (fun _ => trivial) ?_
    refine mb2 _ rfl rfl (fun hb => (a_load1 Tryz.underlying9 rfl (by first | rfl | assumption))) (fun _ => ⟨rfl, trivial⟩) ?_
    refine mb2 _ rfl rfl (fun hb => (a_cat (s := at_) (t := key) (by omega) rfl)) (fun _ => trivial) ?_
    refine mb2 _ rfl rfl (fun hb => a_sneq) (fun _ => trivial) ?_
    refine r_pure (a_or (by first | exact id | (simp; done) | grind)) rfl rfl ?_
    refine mP rfl rfl ?_
    refine mb2 _ rfl rfl (fun hb => (b_fieldAddr fi46_4 rfl)) (fun _ => trivial) ?_
    refine mb2 _ rfl rfl (fun hb => (a_load1 Tryz.underlying29 rfl (by first | rfl | assumption))) (fun _ => ⟨rfl, trivial⟩) ?_
    refine mb2 _ rfl rfl (fun hb => a_neq) (fun _ => trivial) ?_
    refine r_pure (a_or (by first | exact id | (simp; done) | grind)) rfl rfl ?_
    refine arun_nil ?_
    refine thn_n ?_
    refine awp_cond _ rfl (fun h => ?_) (fun h => ?_)
    · have h1 : 0 < rest.length ∨ at_ ≠ ⟨#[]⟩ ∨ err ≠ 0 ∨ key ≠ ⟨#[]⟩ ∨ port ≠ 0 ∨ 0 < M := by
        simp at h
        rcases h with ((q | q) | q) | q
        · by_cases h2 : 0 < rest.length
          · exact .inl h2
          · exact .inr (.inr (.inr (.inr (.inr (by omega)))))
        · exact .inr (.inr (.inr (.inr (.inl q))))
        · by_cases h2 : at_ = ⟨#[]⟩
          · exact .inr (.inr (.inr (.inl fun h3 => q ((app_empty at_ key).2 ⟨h2, h3⟩))))
          · exact .inr (.inl h2)
        · exact .inr (.inr (.inl q))
      rw [if_pos h1] at hE
      subst hE
      refine awp_seq ?_
      refine tx ?_
      refine aP rfl rfl ?_
      refine arun_nil ?_
      refine awp_ret (thn_r (thn_r ?_))
      refine fT (fun o => o) (.tmp _ _ _ _ rfl .nil) ?_ ?_
      · exact rfl
      · exact trivial
    · have h1 : ¬ (0 < rest.length ∨ at_ ≠ ⟨#[]⟩ ∨ err ≠ 0 ∨ key ≠ ⟨#[]⟩ ∨ port ≠ 0 ∨ 0 < M) := by
        simp at h
        obtain ⟨⟨⟨q1, q2⟩, q3⟩, q4⟩ := h
        obtain ⟨q5, q6⟩ := (app_empty at_ key).1 q3
        rintro (p | p | p | p | p | p)
        · omega
        · exact p q5
        · exact p q4
        · exact p q6
        · exact p q2
        · omega
      rw [if_neg h1] at hE
      subst hE
      refine awp_skip (awp_seq ?_)
      refine tx ?_
      refine aP rfl rfl ?_
      refine arun_nil ?_
      refine awp_ret (thn_r ?_)
      refine fT (fun o => o) (.tmp _ _ _ _ rfl .nil) ?_ ?_
      · exact rfl
      · exact trivial
  have h0 : ¬ lv = false := by simpa using h
  clear h
  rw [if_neg h0] at hE
  refine awp_skip (awp_seq (awp_seq ?_))
  refine tx ?_
  refine fA fi46_2 rfl rfl ?_
  refine lN Tryz.underlying27 rfl sz27 rfl rfl ⟨rfl, trivial⟩ ?_
  refine r_callS (fun n => 41 + 1000 * n) (hCf) rfl rfl Tryz.func15 rfl rfl (by first | rfl | simp [AV.okInL, AV.okIn, okInL_map]) rfl rfl rfl (by first | exact trivial | exact ⟨rfl, trivial⟩ | exact ⟨rfl, rfl, trivial⟩) rfl rfl rfl ?_
  refine aP rfl rfl ?_
  refine arun_nil ?_
  refine awp_seq ?_
  refine tx ?_
  refine mP rfl rfl ?_
  refine r_pure a_neq rfl rfl ?_
  refine arun_nil ?_
  refine thn_n ?_
  refine awp_cond _ rfl (fun h => ?_) (fun h => ?_)
  · have h1 : ce ≠ 0 := by simpa using h
    rw [if_pos h1] at hE
    subst hE
    refine awp_seq ?_
    refine tx ?_
    refine mP rfl rfl ?_
    refine aP rfl rfl ?_
    refine arun_nil ?_
    refine awp_ret (thn_r ?_)
    refine fT (fun o => o) (.tmp _ _ _ _ rfl .nil) ?_ ?_
    · exact rfl
    · exact trivial
  have h1 : ce = 0 := by simpa using h
  clear h
  rw [if_neg (by simp [h1])] at hE
  refine awp_skip (awp_seq (awp_seq ?_))
  refine tx ?_
  refine fA fi46_1 rfl rfl ?_
  refine l1 Tryz.underlying28 rfl rfl rfl ⟨rfl, trivial⟩ ?_
  refine r_pure (a_lenS Tryz.underlying28) rfl rfl ?_
  refine r_pure a_gtr rfl rfl ?_
  refine arun_nil ?_
  refine thn_n ?_
  refine awp_cond _ rfl (fun h => ?_) (fun h => ?_)
  · have h2 : 60 < rest.length := by simp at h; omega
    rw [if_pos h2] at hE
    subst hE
    refine awp_seq ?_
    refine tx ?_
    refine aP rfl rfl ?_
    refine arun_nil ?_
    refine awp_ret (thn_r ?_)
    refine fT (fun o => o) (.tmp _ _ _ _ rfl .nil) ?_ ?_
    · exact rfl
    · exact trivial
  have h2 : ¬ 60 < rest.length := by simp at h; omega
  clear h
  rw [if_neg h2] at hE
  refine awp_skip (awp_seq (awp_seq ?_))
  refine tx ?_
  refine fA fi46_1 rfl rfl ?_
  refine l1 Tryz.underlying28 rfl rfl rfl ⟨rfl, trivial⟩ ?_
  refine r_pure (a_lenS Tryz.underlying28) rfl rfl ?_
  refine mP rfl rfl ?_
  refine arun_nil ?_
  refine awp_block ?_
  refine awp_loopR (fun m st => ∃ i : Nat, m + i = rest.length ∧ (∀ j, j < i → seE (seG rest j) = 0) ∧ st = St.of [(1, .ref 1 0), (50, .p (.sl rest.length 5 (rest.flatMap SE.pv))), (51, .p (.v (.int .i64 rest.length))), (52, .p (.v (.int .i64 i)))] [(1, .box 46 (sgC lv rest.length (rest.flatMap SE.pv) key port M L at_ err))]) rest.length ?_ ?_
  · refine ⟨_, re_of id _ _ ?_ ?_ rfl, 0, by omega, by omega, rfl⟩
    · (repeat (first | exact trivial | (refine ⟨⟨(by first | rfl | (simp; done) | (simp; omega)), rfl⟩, ?_⟩)))
    · exact ⟨⟨rfl, rfl⟩, trivial⟩
  rintro m st ⟨i, hi, hf, rfl⟩
  refine awp_seq ?_
  refine tx ?_
  refine r_pure a_lss rfl rfl ?_
  refine arun_nil ?_
  refine awp_seq ?_
  refine awp_cond _ rfl (fun h => ?_) (fun h => ?_)
  · have hlt : i < rest.length := by simp at h; omega
    clear h
    obtain ⟨x, hx⟩ : ∃ x, rest[i]? = some x := ⟨rest[i], List.getElem?_eq_getElem hlt⟩
    have hch := chunk_at (f := SE.pv) (k := 5) (fun _ => rfl) hx
    have hle := chunk_le (f := SE.pv) (k := 5) (fun _ => rfl) hlt
    have hC := refCheck_s x (okr x (List.mem_of_getElem? hx))
    have hhit := @fnz_hit (fun i => seE (seG rest i)) i rest.length hf hlt
    have hgx : seE (seG rest i) = seE x := by rw [seG_at hx]
    generalize rest.flatMap SE.pv = R at *
    generalize seE x = e at *
    obtain ⟨xk, xt, xn, xa, xb⟩ := x
    change Fn Tryz.prog _ [.agg [.p (.v (.int .i64 xk)), .p (.v (.string xt)), .p (.v (.int .i64 xn)), .p (.v (.int .u32 xa)), .p (.v (.int .i64 xb))]] _ _ at hC
    refine awp_skip (awp_seq (awp_block (awp_seq ?_)))
    refine tx ?_
    refine r_pure (a_indexAddrS Tryz.underlying28 sz57 (by omega) (by omega) rfl) rfl rfl ?_
    refine r_pure (a_loadNp Tryz.underlying57 rfl sz57 (by first | omega | (simp; done) | (simp; omega)) (hch)) rfl rfl ?_
    refine r_run (a_alloc 5 zr57 rfl) rfl rfl ⟨rfl, trivial⟩ ?_
    refine r_run (a_storeAll (Y := .agg [.p (.v (.int .i64 xk)), .p (.v (.string xt)), .p (.v (.int .i64 xn)), .p (.v (.int .u32 xa)), .p (.v (.int .i64 xb))]) sz57 rfl rfl (Nat.eq_of_beq_eq_true rfl)) rfl rfl ⟨rfl, trivial⟩ ?_
    refine arun_nil ?_
    refine awp_seq ?_
    refine tx ?_
    refine lN Tryz.underlying57 rfl sz57 rfl rfl ⟨rfl, trivial⟩ ?_
    refine r_callV (fun n => 57 + 1000 * n) (hC) rfl rfl Tryz.func44 rfl rfl (by first | rfl | simp [AV.noSl, AV.noSlL, AObj.noSl, PV.isV, bs_noSl]) (by first | rfl | simp [AV.noSl, AV.noSlL, AObj.noSl, PV.isV, bs_noSl]) rfl rfl rfl (by first | exact trivial | exact ⟨rfl, trivial⟩ | exact ⟨rfl, rfl, trivial⟩) rfl rfl rfl ?_
    refine aP rfl rfl ?_
    refine arun_nil ?_
    refine awp_seq ?_
    refine tx ?_
    refine mP rfl rfl ?_
    refine r_pure a_neq rfl rfl ?_
    refine arun_nil ?_
    refine thn_n ?_
    refine awp_cond _ rfl (fun h => ?_) (fun h => ?_)
    · have h7 : e ≠ 0 := by simpa using h
      rw [hrE, hhit (by rw [hgx]; exact h7), hgx, if_pos h7] at hE
      subst hE
      refine awp_seq ?_
      refine tx ?_
      refine mP rfl rfl ?_
      refine aP rfl rfl ?_
      refine arun_nil ?_
      refine awp_ret (inb_r (thn_r (thn_r (inb_r (thn_r ?_)))))
      refine fT (fun o => o) (.tmp _ _ _ _ rfl .nil) ?_ ?_
      · exact rfl
      · exact trivial
    have h7 : e = 0 := by simpa using h
    clear h
    refine awp_skip (inb_n (thn_n ?_))
    refine tx ?_
    refine r_pure (a_add (by first | exact IntWalk.i64_in _ (by omega) | rfl)) rfl rfl ?_
    refine mP rfl rfl ?_
    refine arun_nil ?_
    refine thn_n ?_
    refine ⟨m - 1, by omega, _, re_of id _ _ ?_ ?_ rfl, i + 1, by omega, fun q hq => ?_, rfl⟩
    · (repeat (first | exact trivial | (refine ⟨⟨(by first | rfl | (simp; done) | (simp; omega)), rfl⟩, ?_⟩)))
    · exact ⟨⟨rfl, rfl⟩, trivial⟩
    · by_cases eq : q = i
      · rw [eq, hgx]; exact h7
      · exact hf q (by omega)
  have hge : i = rest.length := by simp at h; omega
  clear h
  subst hge
  rw [hrE, fnz_ok hf, if_neg (by simp)] at hE
  clear hf hrE
  refine awp_exit (awp_seq (awp_seq ?_))
  refine tx ?_
  refine fA fi46_3 rfl rfl ?_
  refine l1 Tryz.underlying9 rfl rfl rfl ⟨rfl, trivial⟩ ?_
  refine r_pure a_sneq rfl rfl ?_
  refine mP rfl rfl ?_
  refine mb2 _ rfl rfl (fun hb => (b_fieldAddr fi46_3 rfl)) (fun _ => trivial) ?_
  refine mb2 _ rfl rfl (fun hb => (a_load1 Tryz.underlying9 rfl (by first | rfl | assumption))) (fun _ => ⟨rfl, trivial⟩) ?_
  refine mb2 _ rfl rfl (fun _ => a_callS0 Tryz.func34 rfl rfl (hK) (by first | rfl | simp [AV.okInL, AV.okIn, okInL_map]) rfl) (fun _ => trivial) ?_
  refine mb2 _ rfl rfl (fun hb => a_neq) (fun _ => trivial) ?_
  refine r_pure (a_and (by first | exact id | (simp; done) | grind)) rfl rfl ?_
  refine mP rfl rfl ?_
  refine mb2 _ rfl rfl (fun hb => (b_fieldAddr fi46_4 rfl)) (fun _ => trivial) ?_
  refine mb2 _ rfl rfl (fun hb => (a_load1 Tryz.underlying29 rfl (by first | rfl | assumption))) (fun _ => ⟨rfl, trivial⟩) ?_
  refine mb2 _ rfl rfl (fun hb => a_lss) (fun _ => trivial) ?_
  refine r_pure (a_or (by first | exact id | (simp; done) | grind)) rfl rfl ?_
  refine mP rfl rfl ?_
  refine mb2 _ rfl rfl (fun hb => (b_fieldAddr fi46_4 rfl)) (fun _ => trivial) ?_
  refine mb2 _ rfl rfl (fun hb => (a_load1 Tryz.underlying29 rfl (by first | rfl | assumption))) (fun _ => ⟨rfl, trivial⟩) ?_
  refine mb2 _ rfl rfl (fun hb => a_gtr) (fun _ => trivial) ?_
  refine r_pure (a_or (by first | exact id | (simp; done) | grind)) rfl rfl ?_
  refine arun_nil ?_
  refine thn_n ?_
  refine awp_cond _ rfl (fun h => ?_) (fun h => ?_)
  · have h9 : (at_ ≠ ⟨#[]⟩ ∧ k1 ≠ 0) ∨ err < 0 ∨ 14 < err := by
      simp at h
      rcases h with (q | q) | q
      · exact .inl q
      · exact .inr (.inl q)
      · exact .inr (.inr q)
    rw [if_pos h9] at hE
    subst hE
    refine awp_seq ?_
    refine tx ?_
    refine aP rfl rfl ?_
    refine arun_nil ?_
    refine awp_ret (thn_r ?_)
    refine fT (fun o => o) (.tmp _ _ _ _ rfl .nil) ?_ ?_
    · exact rfl
    · exact trivial
  · have h9 : ¬ ((at_ ≠ ⟨#[]⟩ ∧ k1 ≠ 0) ∨ err < 0 ∨ 14 < err) := by
      simp at h
      obtain ⟨⟨q1, q2⟩, q3⟩ := h
      rintro (⟨p1, p2⟩ | p | p)
      · exact p2 (q1 p1)
      · omega
      · omega
    rw [if_neg h9] at hE
    subst hE
    refine awp_skip (awp_seq ?_)
    refine tx ?_
    refine aP rfl rfl ?_
    refine arun_nil ?_
    refine awp_ret ?_
    refine fT (fun o => o) (.tmp _ _ _ _ rfl .nil) ?_ ?_
    · exact rfl
    · exact trivial
end Go.Proofs.YtcjnecmgificmaaGreatDoor
