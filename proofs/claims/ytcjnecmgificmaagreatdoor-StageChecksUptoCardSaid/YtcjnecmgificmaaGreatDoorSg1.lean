/- A stage, typed, as data; stage.Check, the reference's StageFault. -/
import Derived.Test.YtcjnecmgificmaaGreatDoorCf4
import Derived.Test.YtcjnecmgificmaaGreatDoorSe
import Derived.Test.YtcjnecmgificmaaGreatDoorBt2
--%T
namespace Go.Proofs.YtcjnecmgificmaaGreatDoor
open Go.RowKit Go.Sort
set_option linter.unusedVariables false
set_option linter.unusedSimpArgs false
set_option maxRecDepth 100000

/-- a stage -/
structure SG where
  lv : Bool
  rest : List SE
  c : CF
  at_ : ByteArray
  err : Int
def sgC (lv : Bool) (n : Nat) (R : List PV) (key : ByteArray) (port : Int) (m : Nat) (L : List PV) (at_ : ByteArray) (err : Int) : List AV :=
  [.p (.v (.bool lv)), .p (.sl n 5 R), .p (.v (.string key)), .p (.v (.int .i64 port)), .p (.sl m 5 L), .p (.v (.string at_)), .p (.v (.int .i64 err))]
def SG.cells (s : SG) : List AV := sgC s.lv s.rest.length (s.rest.flatMap SE.pv) s.c.key s.c.port s.c.ps.length (s.c.ps.flatMap PE.pv) s.at_ s.err
def SG.pv (s : SG) : List PV := [.v (.bool s.lv), .sl s.rest.length 5 (s.rest.flatMap SE.pv)] ++ s.c.pv ++ [.v (.string s.at_), .v (.int .i64 s.err)]
structure SG.OK (s : SG) : Prop where
  rest : ∀ x ∈ s.rest, x.OK
  len : s.rest.length ≤ 1048576
  c : s.c.OK
  az : s.at_.size ≤ 1048576
  kz : s.c.key.size ≤ 1048576
theorem SG.of_ty {n : Nat} {ps : List PV} (h : Ty Tryz.prog (n + 8) 46 ps) (hb : PV.bdL 1048576 ps) : ∃ s : SG, s.OK ∧ ps = s.pv := by
  obtain ⟨_, rfl, x0, _, rfl, t0, x1, _, rfl, t1, x2, _, rfl, t2, x3, _, rfl, t3, x4, _, rfl, t4, rfl⟩ := ty_struct (ts := [4, 28, 27, 9, 29]) (by kernel_rfl) h
  obtain ⟨a0, rfl⟩ := ty_bool Tryz.underlying4 t0
  obtain ⟨l, okl, hl, rfl⟩ := SE.list_ty t1 (bdL_unflat hb x1 (by simp))
  have hb2 := bdL_unflat hb x2 (by simp)
  have hb3 := bdL_unflat hb x3 (by simp)
  obtain ⟨c, okc, rfl⟩ := CF.of_ty t2 hb2
  obtain ⟨a3, rfl, _⟩ := ty_string Tryz.underlying9 t3
  obtain ⟨a4, rfl, _⟩ := ty_int Tryz.underlying29 t4
  simp only [CF.pv, PV.bdL, PV.bd] at hb2 hb3
  exact ⟨⟨a0, l, c, a3, a4⟩, ⟨okl, hl, okc, hb3.1, hb2.1⟩, by simp [SG.pv]⟩
def seG (l : List SE) (i : Nat) : SE := l.getD i ⟨0, ⟨#[]⟩, 0, 0, 0⟩
theorem seG_at {l : List SE} {i : Nat} {p : SE} (h : l[i]? = some p) : seG l i = p := by unfold seG; rw [List.getD_eq_getElem?_getD, h]; rfl
def restE (l : List SE) : Int := fnz (fun i => seE (seG l i)) l.length
def sgE (s : SG) : Int :=
  if s.lv = false then (if 0 < s.rest.length ∨ s.at_ ≠ ⟨#[]⟩ ∨ s.err ≠ 0 ∨ s.c.key ≠ ⟨#[]⟩ ∨ s.c.port ≠ 0 ∨ 0 < s.c.ps.length then 14 else 0)
  else if cfE s.c ≠ 0 then cfE s.c else if 60 < s.rest.length then 1 else if restE s.rest ≠ 0 then restE s.rest
  else if (s.at_ ≠ ⟨#[]⟩ ∧ keyE s.at_ ≠ 0) ∨ s.err < 0 ∨ 14 < s.err then 4 else 0
set_option maxHeartbeats 4000000 in
theorem sgCheck_s (s : SG) (ok : s.OK) : Fn Tryz.prog 20 [.agg s.cells] (.p (.v (.int .i64 (sgE s)))) [] := by
  obtain ⟨lv, rest, c, at_, err⟩ := s
  obtain ⟨okr, hl, okc, haz, hkz⟩ := ok
  dsimp only at okr hl okc haz hkz
  obtain ⟨E, hE⟩ : ∃ E, sgE ⟨lv, rest, c, at_, err⟩ = E := ⟨_, rfl⟩
  rw [hE]
  unfold sgE at hE
  dsimp only at hE
  have hCf := cfCheck_s c okc
  have hK := hexCheck_s at_
  have hrE : restE rest = fnz (fun i => seE (seG rest i)) rest.length := rfl
  have hpl := okc.len
  generalize cfE c = ce at *
  generalize keyE at_ = k1 at *
  obtain ⟨key, port, ps⟩ := c
  dsimp only at hE hpl hkz
  change Fn Tryz.prog _ [.agg [.p (.v (.string key)), .p (.v (.int .i64 port)), .p (.sl ps.length 5 (ps.flatMap PE.pv))]] _ _ at hCf
  show Fn Tryz.prog _ [.agg (sgC lv rest.length (rest.flatMap SE.pv) key port ps.length (ps.flatMap PE.pv) at_ err)] _ _
  clear okc
  generalize ps.flatMap PE.pv = L at *
  generalize ps.length = M at *
  refine fn_intro Tryz.func20 rfl (Nat.le_of_ble_eq_true rfl) fun w0 A => ?_
  refine awp_seq ?_
  refine tx ?_
  refine r_run (a_box (X := .agg _) 1 rfl) rfl rfl ⟨rfl, trivial⟩ ?_
  refine aP rfl rfl ?_
  refine arun_nil ?_
  refine awp_seq (awp_seq ?_)
  refine tx ?_
  refine fA fi46_0 rfl rfl ?_
  refine l1 Tryz.underlying4 rfl rfl rfl ⟨rfl, trivial⟩ ?_
  refine r_pure a_not rfl rfl ?_
  refine arun_nil ?_
  refine thn_n ?_
  refine awp_cond _ rfl (fun h => ?_) (fun h => ?_)
  · have h0 : lv = false := by simpa using h
    clear h
    rw [if_pos h0] at hE
    refine awp_seq (awp_seq ?_)
    refine tx ?_
    refine fA fi46_1 rfl rfl ?_
    refine l1 Tryz.underlying28 rfl rfl rfl ⟨rfl, trivial⟩ ?_
    refine r_pure (a_lenS Tryz.underlying28) rfl rfl ?_
    refine r_pure a_gtr rfl rfl ?_
    refine mP rfl rfl ?_
    refine mb2 _ rfl rfl (fun hb => (b_fieldAddr fi46_3 rfl)) (fun _ => trivial) ?_
    refine mb2 _ rfl rfl (fun hb => (a_load1 Tryz.underlying9 rfl (by first | rfl | assumption))) (fun _ => ⟨rfl, trivial⟩) ?_
    refine mb2 _ rfl rfl (fun hb => a_sneq) (fun _ => trivial) ?_
    refine r_pure (a_or (by first | exact id | (simp; done) | grind)) rfl rfl ?_
    refine mP rfl rfl ?_
    refine mb2 _ rfl rfl (fun hb => (b_fieldAddr fi46_4 rfl)) (fun _ => trivial) ?_
    refine mb2 _ rfl rfl (fun hb => (a_load1 Tryz.underlying29 rfl (by first | rfl | assumption))) (fun _ => ⟨rfl, trivial⟩) ?_
    refine mb2 _ rfl rfl (fun hb => a_neq) (fun _ => trivial) ?_
    refine r_pure (a_or (by first | exact id | (simp; done) | grind)) rfl rfl ?_
    refine mP rfl rfl ?_
    refine mb2 _ rfl rfl (fun hb => (b_fieldAddr fi46_2 rfl)) (fun _ => trivial) ?_
    refine mb2 _ rfl rfl (fun hb => (b_fieldAddr fi27_0 rfl)) (fun _ => trivial) ?_
    refine mb2 _ rfl rfl (fun hb => (a_load1 Tryz.underlying9 rfl (by first | rfl | assumption))) (fun _ => ⟨rfl, trivial⟩) ?_
    refine mb2 _ rfl rfl (fun hb => a_sneq) (fun _ => trivial) ?_
    refine r_pure (a_or (by first | exact id | (simp; done) | grind)) rfl rfl ?_
    refine mP rfl rfl ?_
    refine mb2 _ rfl rfl (fun hb => (b_fieldAddr fi46_2 rfl)) (fun _ => trivial) ?_
    refine mb2 _ rfl rfl (fun hb => (b_fieldAddr fi27_1 rfl)) (fun _ => trivial) ?_
    refine mb2 _ rfl rfl (fun hb => (a_load1 Tryz.underlying3 rfl (by first | rfl | assumption))) (fun _ => ⟨rfl, trivial⟩) ?_
    refine mb2 _ rfl rfl (fun hb => a_neq) (fun _ => trivial) ?_
    refine r_pure (a_or (by first | exact id | (simp; done) | grind)) rfl rfl ?_
    refine mP rfl rfl ?_
    refine mb2 _ rfl rfl (fun hb => (b_fieldAddr fi46_2 rfl)) (fun _ => trivial) ?_
    refine mb2 _ rfl rfl (fun hb => (b_fieldAddr fi27_2 rfl)) (fun _ => trivial) ?_
    refine mb2 _ rfl rfl (fun hb => (a_load1 Tryz.underlying25 rfl (by first | rfl | assumption))) (fun _ => ⟨rfl, trivial⟩) ?_
    refine mb2 _ rfl rfl (fun hb => (a_lenS Tryz.underlying25)) (fun _ => trivial) ?_
    refine mb2 _ rfl rfl (fun hb => a_gtr) (fun _ => trivial) ?_
    refine r_pure (a_or (by first | exact id | (simp; done) | grind)) rfl rfl ?_
    refine arun_nil ?_
    refine thn_n ?_
    refine awp_cond _ rfl (fun h => ?_) (fun h => ?_)
    · have h1 : 0 < rest.length ∨ at_ ≠ ⟨#[]⟩ ∨ err ≠ 0 ∨ key ≠ ⟨#[]⟩ ∨ port ≠ 0 ∨ 0 < M := by
        simp at h
        simp only [or_assoc] at h
        exact h
      rw [if_pos h1] at hE
      subst hE
      refine awp_seq ?_
      refine tx ?_
      refine aP rfl rfl ?_
      refine arun_nil ?_
      refine awp_ret (thn_r (thn_r ?_))
      refine fT (fun o => o) (.tmp _ _ _ _ rfl .nil) ?_ ?_
      · exact rfl
      · exact trivial
    · have h1 : ¬ (0 < rest.length ∨ at_ ≠ ⟨#[]⟩ ∨ err ≠ 0 ∨ key ≠ ⟨#[]⟩ ∨ port ≠ 0 ∨ 0 < M) := by
        simp at h
        simp only [not_or]
        simp only [and_assoc] at h
        obtain ⟨q1, q2, q3, q4, q5, q6⟩ := h
        refine ⟨by simp [q1], by simpa using q2, by simpa using q3, by simpa using q4, by simpa using q5, by omega⟩
      rw [if_neg h1] at hE
      subst hE
      refine awp_skip (awp_seq ?_)
      refine tx ?_
      refine aP rfl rfl ?_
      refine arun_nil ?_
      refine awp_ret (thn_r ?_)
      refine fT (fun o => o) (.tmp _ _ _ _ rfl .nil) ?_ ?_
      · exact rfl
      · exact trivial
  have h0 : ¬ lv = false := by simpa using h
  clear h
  rw [if_neg h0] at hE
  refine awp_skip (awp_seq (awp_seq ?_))
  refine tx ?_
  refine fA fi46_2 rfl rfl ?_
  refine lN Tryz.underlying27 rfl sz27 rfl rfl ⟨rfl, trivial⟩ ?_
  refine r_callS (fun n => 45 + 1000 * n) (hCf) rfl rfl Tryz.func12 rfl rfl (by first | rfl | simp [AV.okInL, AV.okIn, okInL_map]) rfl rfl rfl (by first | exact trivial | exact ⟨rfl, trivial⟩ | exact ⟨rfl, rfl, trivial⟩) rfl rfl rfl ?_
  refine aP rfl rfl ?_
  refine arun_nil ?_
  refine awp_seq ?_
  refine tx ?_
  refine mP rfl rfl ?_
  refine r_pure a_neq rfl rfl ?_
  refine arun_nil ?_
  refine thn_n ?_
  refine awp_cond _ rfl (fun h => ?_) (fun h => ?_)
  · have h1 : ce ≠ 0 := by simpa using h
    rw [if_pos h1] at hE
    subst hE
    refine awp_seq ?_
    refine tx ?_
    refine mP rfl rfl ?_
    refine aP rfl rfl ?_
    refine arun_nil ?_
    refine awp_ret (thn_r ?_)
    refine fT (fun o => o) (.tmp _ _ _ _ rfl .nil) ?_ ?_
    · exact rfl
    · exact trivial
  have h1 : ce = 0 := by simpa using h
  clear h
  rw [if_neg (by simp [h1])] at hE
  refine awp_skip (awp_seq (awp_seq ?_))
  refine tx ?_
  refine fA fi46_1 rfl rfl ?_
  refine l1 Tryz.underlying28 rfl rfl rfl ⟨rfl, trivial⟩ ?_
  refine r_pure (a_lenS Tryz.underlying28) rfl rfl ?_
  refine r_pure a_gtr rfl rfl ?_
  refine arun_nil ?_
  refine thn_n ?_
  refine awp_cond _ rfl (fun h => ?_) (fun h => ?_)
  · have h2 : 60 < rest.length := by simp at h; omega
    rw [if_pos h2] at hE
    subst hE
    refine awp_seq ?_
    refine tx ?_
    refine aP rfl rfl ?_
    refine arun_nil ?_
    refine awp_ret (thn_r ?_)
    refine fT (fun o => o) (.tmp _ _ _ _ rfl .nil) ?_ ?_
    · exact rfl
    · exact trivial
  have h2 : ¬ 60 < rest.length := by simp at h; omega
  clear h
  rw [if_neg h2] at hE
  refine awp_skip (awp_seq (awp_seq ?_))
  refine tx ?_
  refine fA fi46_1 rfl rfl ?_
  refine l1 Tryz.underlying28 rfl rfl rfl ⟨rfl, trivial⟩ ?_
  refine r_pure (a_lenS Tryz.underlying28) rfl rfl ?_
  refine mP rfl rfl ?_
  refine arun_nil ?_
  refine awp_block ?_
  refine awp_loopR (fun m st => ∃ i : Nat, m + i = rest.length ∧ (∀ j, j < i → seE (seG rest j) = 0) ∧ st = St.of [(1, .ref 1 0), (54, .p (.sl rest.length 5 (rest.flatMap SE.pv))), (55, .p (.v (.int .i64 rest.length))), (56, .p (.v (.int .i64 i)))] [(1, .box 46 (sgC lv rest.length (rest.flatMap SE.pv) key port M L at_ err))]) rest.length ?_ ?_
  · refine ⟨_, re_of id _ _ ?_ ?_ rfl, 0, by omega, by omega, rfl⟩
    · (repeat (first | exact trivial | (refine ⟨⟨(by first | rfl | (simp; done) | (simp; omega)), rfl⟩, ?_⟩)))
    · exact ⟨⟨rfl, rfl⟩, trivial⟩
  rintro m st ⟨i, hi, hf, rfl⟩
  refine awp_seq ?_
  refine tx ?_
  refine r_pure a_lss rfl rfl ?_
  refine arun_nil ?_
  refine awp_seq ?_
  refine awp_cond _ rfl (fun h => ?_) (fun h => ?_)
  · have hlt : i < rest.length := by simp at h; omega
    clear h
    obtain ⟨x, hx⟩ : ∃ x, rest[i]? = some x := ⟨rest[i], List.getElem?_eq_getElem hlt⟩
    have hch := chunk_at (f := SE.pv) (k := 5) (fun _ => rfl) hx
    have hle := chunk_le (f := SE.pv) (k := 5) (fun _ => rfl) hlt
    have hC := check_s x (okr x (List.mem_of_getElem? hx))
    have hhit := @fnz_hit (fun i => seE (seG rest i)) i rest.length hf hlt
    have hgx : seE (seG rest i) = seE x := by rw [seG_at hx]
    generalize rest.flatMap SE.pv = R at *
    generalize seE x = e at *
    obtain ⟨xk, xt, xn, xa, xb⟩ := x
    change Fn Tryz.prog _ [.agg [.p (.v (.int .i64 xk)), .p (.v (.string xt)), .p (.v (.int .i64 xn)), .p (.v (.int .u32 xa)), .p (.v (.int .i64 xb))]] _ _ at hC
    refine awp_skip (awp_seq (awp_block (awp_seq ?_)))
    refine tx ?_
    refine r_pure (a_indexAddrS Tryz.underlying28 sz57 (by omega) (by omega) rfl) rfl rfl ?_
    refine r_pure (a_loadNp Tryz.underlying57 rfl sz57 (by first | omega | (simp; done) | (simp; omega)) (hch)) rfl rfl ?_
    refine r_run (a_alloc 5 zr57 rfl) rfl rfl ⟨rfl, trivial⟩ ?_
    refine r_run (a_storeAll (Y := .agg [.p (.v (.int .i64 xk)), .p (.v (.string xt)), .p (.v (.int .i64 xn)), .p (.v (.int .u32 xa)), .p (.v (.int .i64 xb))]) sz57 rfl rfl (Nat.eq_of_beq_eq_true rfl)) rfl rfl ⟨rfl, trivial⟩ ?_
    refine arun_nil ?_
    refine awp_seq ?_
    refine tx ?_
    refine lN Tryz.underlying57 rfl sz57 rfl rfl ⟨rfl, trivial⟩ ?_
    refine r_callV (fun n => 61 + 1000 * n) (hC) rfl rfl Tryz.func42 rfl rfl (by first | rfl | simp [AV.noSl, AV.noSlL, AObj.noSl, PV.isV, bs_noSl]) (by first | rfl | simp [AV.noSl, AV.noSlL, AObj.noSl, PV.isV, bs_noSl]) rfl rfl rfl (by first | exact trivial | exact ⟨rfl, trivial⟩ | exact ⟨rfl, rfl, trivial⟩) rfl rfl rfl ?_
    refine aP rfl rfl ?_
    refine arun_nil ?_
    refine awp_seq ?_
    refine tx ?_
    refine mP rfl rfl ?_
    refine r_pure a_neq rfl rfl ?_
    refine arun_nil ?_
    refine thn_n ?_
    refine awp_cond _ rfl (fun h => ?_) (fun h => ?_)
    · have h7 : e ≠ 0 := by simpa using h
      rw [hrE, hhit (by rw [hgx]; exact h7), hgx, if_pos h7] at hE
      subst hE
      refine awp_seq ?_
      refine tx ?_
      refine mP rfl rfl ?_
      refine aP rfl rfl ?_
      refine arun_nil ?_
      refine awp_ret (inb_r (thn_r (thn_r (inb_r (thn_r ?_)))))
      refine fT (fun o => o) (.tmp _ _ _ _ rfl .nil) ?_ ?_
      · exact rfl
      · exact trivial
    have h7 : e = 0 := by simpa using h
    clear h
    refine awp_skip (inb_n (thn_n ?_))
    refine tx ?_
    refine r_pure (a_add (by first | exact IntWalk.i64_in _ (by omega) | rfl)) rfl rfl ?_
    refine mP rfl rfl ?_
    refine arun_nil ?_
    refine thn_n ?_
    refine ⟨m - 1, by omega, _, re_of id _ _ ?_ ?_ rfl, i + 1, by omega, fun q hq => ?_, rfl⟩
    · (repeat (first | exact trivial | (refine ⟨⟨(by first | rfl | (simp; done) | (simp; omega)), rfl⟩, ?_⟩)))
    · exact ⟨⟨rfl, rfl⟩, trivial⟩
    · by_cases eq : q = i
      · rw [eq, hgx]; exact h7
      · exact hf q (by omega)
  have hge : i = rest.length := by simp at h; omega
  clear h
  subst hge
  rw [hrE, fnz_ok hf, if_neg (by simp)] at hE
  clear hf hrE
  refine awp_exit (awp_seq (awp_seq ?_))
  refine tx ?_
  refine fA fi46_3 rfl rfl ?_
  refine l1 Tryz.underlying9 rfl rfl rfl ⟨rfl, trivial⟩ ?_
  refine r_pure a_sneq rfl rfl ?_
  refine mP rfl rfl ?_
  refine mb2 _ rfl rfl (fun hb => (b_fieldAddr fi46_3 rfl)) (fun _ => trivial) ?_
  refine mb2 _ rfl rfl (fun hb => (a_load1 Tryz.underlying9 rfl (by first | rfl | assumption))) (fun _ => ⟨rfl, trivial⟩) ?_
  refine mb2 _ rfl rfl (fun _ => a_callS0 Tryz.func29 rfl rfl (hK) (by first | rfl | simp [AV.okInL, AV.okIn, okInL_map]) rfl) (fun _ => trivial) ?_
  refine mb2 _ rfl rfl (fun hb => a_neq) (fun _ => trivial) ?_
  refine r_pure (a_and (by first | exact id | (simp; done) | grind)) rfl rfl ?_
  refine mP rfl rfl ?_
  refine mb2 _ rfl rfl (fun hb => (b_fieldAddr fi46_4 rfl)) (fun _ => trivial) ?_
  refine mb2 _ rfl rfl (fun hb => (a_load1 Tryz.underlying29 rfl (by first | rfl | assumption))) (fun _ => ⟨rfl, trivial⟩) ?_
  refine mb2 _ rfl rfl (fun hb => a_lss) (fun _ => trivial) ?_
  refine r_pure (a_or (by first | exact id | (simp; done) | grind)) rfl rfl ?_
  refine mP rfl rfl ?_
  refine mb2 _ rfl rfl (fun hb => (b_fieldAddr fi46_4 rfl)) (fun _ => trivial) ?_
  refine mb2 _ rfl rfl (fun hb => (a_load1 Tryz.underlying29 rfl (by first | rfl | assumption))) (fun _ => ⟨rfl, trivial⟩) ?_
  refine mb2 _ rfl rfl (fun hb => a_gtr) (fun _ => trivial) ?_
  refine r_pure (a_or (by first | exact id | (simp; done) | grind)) rfl rfl ?_
  refine arun_nil ?_
  refine thn_n ?_
  refine awp_cond _ rfl (fun h => ?_) (fun h => ?_)
  · have h9 : (at_ ≠ ⟨#[]⟩ ∧ k1 ≠ 0) ∨ err < 0 ∨ 14 < err := by
      simp at h
      rcases h with (q | q) | q
      · exact .inl q
      · exact .inr (.inl q)
      · exact .inr (.inr q)
    rw [if_pos h9] at hE
    subst hE
    refine awp_seq ?_
    refine tx ?_
    refine aP rfl rfl ?_
    refine arun_nil ?_
    refine awp_ret (thn_r ?_)
    refine fT (fun o => o) (.tmp _ _ _ _ rfl .nil) ?_ ?_
    · exact rfl
    · exact trivial
  · have h9 : ¬ ((at_ ≠ ⟨#[]⟩ ∧ k1 ≠ 0) ∨ err < 0 ∨ 14 < err) := by
      simp at h
      obtain ⟨⟨q1, q2⟩, q3⟩ := h
      rintro (⟨p1, p2⟩ | p | p)
      · exact p2 (q1 p1)
      · omega
      · omega
    rw [if_neg h9] at hE
    subst hE
    refine awp_skip (awp_seq ?_)
    refine tx ?_
    refine aP rfl rfl ?_
    refine arun_nil ?_
    refine awp_ret ?_
    refine fT (fun o => o) (.tmp _ _ _ _ rfl .nil) ?_ ?_
    · exact rfl
    · exact trivial
end Go.Proofs.YtcjnecmgificmaaGreatDoor
