/- table.Right, the reference's StateFault, over data. -/
import Derived.Test.YtcjnecmgificmaaDoorBt1
import Derived.Test.YtcjnecmgificmaaDoorKy2
import Derived.Test.YtcjnecmgificmaaDoorHs
--%T
namespace Go.Proofs.YtcjnecmgificmaaDoor
open Go.RowKit Go.Sort
set_option linter.unusedVariables false
set_option linter.unusedSimpArgs false
set_option maxRecDepth 100000

/-- a packet that waits -/
structure PQ where
  a : Int
  b : Int
  xs : List Int
def PQ.pv (p : PQ) : List PV := [.v (.int .u32 p.a), .v (.int .u32 p.b), .sl p.xs.length 1 (bs p.xs)]
theorem pchk_s (a b : Int) (n : Nat) (cs : List PV) (hn : n ≤ 140737488355328) : Fn Tryd.prog 51 [.agg [.p (.v (.int .u32 a)), .p (.v (.int .u32 b)), .p (.sl n 1 cs)]] (.p (.v (.int .i64 (if 200 < n then 1 else 0)))) [] := by
  refine fn_intro Tryd.func51 rfl (Nat.le_of_ble_eq_true rfl) fun w0 A => ?_
  refine awp_seq ?_
  refine tx ?_
  refine r_run (a_box (X := .agg _) 1 rfl) rfl rfl ⟨rfl, trivial⟩ ?_
  refine aP rfl rfl ?_
  refine arun_nil ?_
  refine awp_seq (awp_seq ?_)
  refine tx ?_
  refine fA fi99_2 rfl rfl ?_
  refine l1 Tryd.underlying95 rfl rfl rfl ⟨rfl, trivial⟩ ?_
  refine r_pure (a_lenS Tryd.underlying95) rfl rfl ?_
  refine r_pure a_gtr rfl rfl ?_
  refine arun_nil ?_
  refine thn_n ?_
  refine awp_cond _ rfl (fun h => ?_) (fun h => ?_)
  · have h1 : 200 < n := by simp at h; omega
    rw [if_pos h1]
    refine awp_seq ?_
    refine tx ?_
    refine aP rfl rfl ?_
    refine arun_nil ?_
    refine awp_ret (thn_r ?_)
    refine fT (fun o => o) (.tmp _ _ _ _ rfl .nil) ?_ ?_
    · exact rfl
    · exact trivial
  · have h1 : ¬ 200 < n := by simp at h; omega
    rw [if_neg h1]
    refine awp_skip (awp_seq ?_)
    refine tx ?_
    refine aP rfl rfl ?_
    refine arun_nil ?_
    refine awp_ret ?_
    refine fT (fun o => o) (.tmp _ _ _ _ rfl .nil) ?_ ?_
    · exact rfl
    · exact trivial
def slots3 (a b c : KY) : List AV := a.cells ++ b.cells ++ c.cells
def slots3V (a b c : KY) : List PV := a.pv ++ b.pv ++ c.pv
def three (a b c : KY) (i : Nat) : KY := if i = 0 then a else if i = 1 then b else c
theorem three_at (a b c : KY) (i : Nat) (h : i < 3) : ((slots3 a b c).drop (i * 11)).take 11 = (three a b c i).cells := by
  match i, h with
  | 0, _ => rfl
  | 1, _ => rfl
  | 2, _ => rfl
theorem three_atV (a b c : KY) (i : Nat) (h : i < 3) : ((slots3V a b c).drop (i * 11)).take 11 = (three a b c i).pv := by
  match i, h with
  | 0, _ => rfl
  | 1, _ => rfl
  | 2, _ => rfl
theorem three_ok {a b c : KY} (ha : a.OK) (hb : b.OK) (hc : c.OK) (i : Nat) : (three a b c i).OK := by
  unfold three
  split
  · exact ha
  · split
    · exact hb
    · exact hc
/-- the state of a peer -/
structure ST where
  key : ByteArray
  ep : ByteArray
  a : KY
  b : KY
  c : KY
  h : HS
  q : List PQ
def HS0 : HS := ⟨false, 0, ⟨#[]⟩, 0, 0⟩
def stC (key ep : ByteArray) (a b c : KY) (h : HS) (n : Nat) (q : List PV) : List AV := [.p (.v (.string key)), .p (.v (.string ep))] ++ slots3 a b c ++ h.cells ++ [.p (.sl n 3 q)]
def ST.cells (s : ST) : List AV := stC s.key s.ep s.a s.b s.c s.h s.q.length (s.q.flatMap PQ.pv)
def ST.pv (s : ST) : List PV := [.v (.string s.key), .v (.string s.ep)] ++ slots3V s.a s.b s.c ++ s.h.pv ++ [.sl s.q.length 3 (s.q.flatMap PQ.pv)]
structure ST.OK (s : ST) : Prop where
  ep : s.ep.size < 4294967281
  a : s.a.OK
  b : s.b.OK
  c : s.c.OK
  q : s.q.length ≤ 1048576
  qx : ∀ p ∈ s.q, p.xs.length ≤ 1048576
def hsE (h : HS) : Int :=
  if h.lv = false then (if h.mine = 0 ∧ h.nc = ⟨#[]⟩ ∧ h.b = 0 ∧ h.s = 0 then 0 else 14) else if h.nc.size ≠ 16 then 1 else if hexE h.nc ≠ 0 then hexE h.nc
  else if h.mine < 1 ∨ 4294967295 < h.mine ∨ h.b < 0 ∨ h.s < h.b ∨ 1099511627776 < h.s then 4 else 0
noncomputable def ksE (a b c : KY) : Int := fnz (fun i => kE (three a b c i)) 3
def pqG (l : List PQ) (i : Nat) : PQ := l.getD i ⟨0, 0, []⟩
def pqE (l : List PQ) : Int := fnz (fun i => if 200 < (pqG l i).xs.length then 1 else 0) l.length
noncomputable def stE (s : ST) : Int :=
  if keyE s.key ≠ 0 then keyE s.key else if ksE s.a s.b s.c ≠ 0 then ksE s.a s.b s.c else if hsE s.h ≠ 0 then hsE s.h
  else if s.ep ≠ ⟨#[]⟩ ∧ enE s.ep ≠ 0 then enE s.ep else if 3 < s.q.length then 1 else pqE s.q
theorem eqHand (m : Int) (n : ByteArray) (b s : Int) : eqL [.bool false, .int .i64 m, .string n, .int .i64 b, .int .i64 s] [.bool false, .int .i64 0, .string ⟨#[]⟩, .int .i64 0, .int .i64 0] = decide (m = 0 ∧ n = ⟨#[]⟩ ∧ b = 0 ∧ s = 0) := by
  rw [Bool.eq_iff_iff, eqL_true]
  simp
set_option maxHeartbeats 4000000 in
theorem tright_s (s : ST) (ok : s.OK) : Fn Tryd.prog 23 [.agg s.cells] (.p (.v (.int .i64 (stE s)))) [] := by
  obtain ⟨key, ep, a, b, c, h0, q⟩ := s
  obtain ⟨hep, oa, ob, oc, hq, hqx⟩ := ok
  dsimp only at hep oa ob oc hq hqx
  obtain ⟨E, hE⟩ : ∃ E, stE ⟨key, ep, a, b, c, h0, q⟩ = E := ⟨_, rfl⟩
  rw [hE]
  unfold stE at hE
  dsimp only at hE
  have hK := hexCheck_s key
  have hEn := end_s ep hep
  obtain ⟨ea, eb, hen⟩ := enR_e ep
  rw [hen] at hEn
  clear hen
  have h3a := three_at a b c
  have h3o := three_ok oa ob oc
  have hks : ksE a b c = fnz (fun i => kE (three a b c i)) 3 := rfl
  generalize hT : three a b c = T at *
  show Fn Tryd.prog _ [.agg (stC key ep a b c h0 q.length (q.flatMap PQ.pv))] _ _
  generalize keyE key = k1 at *
  generalize enE ep = e1 at *
  refine fn_intro Tryd.func23 rfl (Nat.le_of_ble_eq_true rfl) fun w0 A => ?_
  refine awp_seq ?_
  refine tx ?_
  refine r_run (a_box (X := .agg _) 1 rfl) rfl rfl ⟨rfl, trivial⟩ ?_
  refine aP rfl rfl ?_
  refine arun_nil ?_
  refine awp_seq (awp_seq ?_)
  refine tx ?_
  refine fA fi51_0 rfl rfl ?_
  refine l1 Tryd.underlying9 rfl rfl rfl ⟨rfl, trivial⟩ ?_
  refine r_callV (fun n => 18 + 1000 * n) (hK) rfl rfl Tryd.func48 rfl rfl (by first | rfl | simp [AV.noSl, AV.noSlL, AObj.noSl, PV.isV, bs_noSl]) (by first | rfl | simp [AV.noSl, AV.noSlL, AObj.noSl, PV.isV, bs_noSl]) rfl rfl rfl (by first | exact trivial | exact ⟨rfl, trivial⟩ | exact ⟨rfl, rfl, trivial⟩) rfl rfl rfl ?_
  refine aP rfl rfl ?_
  refine arun_nil ?_
  refine awp_seq ?_
  refine tx ?_
  refine mP rfl rfl ?_
  refine r_pure a_neq rfl rfl ?_
  refine arun_nil ?_
  refine thn_n ?_
  refine awp_cond _ rfl (fun h => ?_) (fun h => ?_)
  · have h1 : k1 ≠ 0 := by simpa using h
    rw [if_pos h1] at hE
    subst hE
    refine awp_seq ?_
    refine tx ?_
    refine mP rfl rfl ?_
    refine aP rfl rfl ?_
    refine arun_nil ?_
    refine awp_ret (thn_r ?_)
    refine fT (fun o => o) (.tmp _ _ _ _ rfl .nil) ?_ ?_
    · exact rfl
    · exact trivial
  have h1 : k1 = 0 := by simpa using h
  clear h
  rw [if_neg (by simp [h1])] at hE
  refine awp_skip (awp_seq (awp_seq ?_))
  refine tx ?_
  refine fA fi51_2 rfl rfl ?_
  refine fA fi46_0 rfl rfl ?_
  refine r_run (a_loadN Tryd.underlying44 rfl sz44 (by first | exact Nat.le_of_ble_eq_true rfl | omega | (simp only [AV.cells, List.length_map]; omega)) (show _ = a.cells from rfl)) rfl rfl ⟨rfl, trivial⟩ ?_
  refine fA fi51_2 rfl rfl ?_
  refine fA fi46_1 rfl rfl ?_
  refine r_run (a_loadN Tryd.underlying44 rfl sz44 (by first | exact Nat.le_of_ble_eq_true rfl | omega | (simp only [AV.cells, List.length_map]; omega)) (show _ = b.cells from rfl)) rfl rfl ⟨rfl, trivial⟩ ?_
  refine fA fi51_2 rfl rfl ?_
  refine fA fi46_2 rfl rfl ?_
  refine r_run (a_loadN Tryd.underlying44 rfl sz44 (by first | exact Nat.le_of_ble_eq_true rfl | omega | (simp only [AV.cells, List.length_map]; omega)) (show _ = c.cells from rfl)) rfl rfl ⟨rfl, trivial⟩ ?_
  refine r_pure (xs := [.agg a.cells, .agg b.cells, .agg c.cells]) (a_buildA (es := (a.cells ++ b.cells ++ c.cells)) Tryd.underlying93 zr93 rfl sz44 (by kernel_rfl)) (by first | rfl | kernel_rfl) rfl ?_
  refine mP rfl rfl ?_
  refine arun_nil ?_
  refine awp_block ?_
  refine awp_loopR (fun m st => ∃ i : Nat, m + i = 3 ∧ (∀ j, j < i → kE (T j) = 0) ∧ st = St.of [(1, .ref 1 0), (31, .agg (slots3 a b c)), (32, .p (.v (.int .i64 i)))] [(1, .box 51 (stC key ep a b c h0 q.length (q.flatMap PQ.pv)))]) 3 ?_ ?_
  · refine ⟨_, re_of id _ _ ?_ ?_ rfl, 0, by omega, by omega, rfl⟩
    · (repeat (first | exact trivial | (refine ⟨⟨(by first | rfl | (simp; done) | (simp; omega)), rfl⟩, ?_⟩)))
    · exact ⟨⟨rfl, rfl⟩, trivial⟩
  rintro m st ⟨i, hi, hf, rfl⟩
  refine awp_seq ?_
  refine tx ?_
  refine r_pure a_lss rfl rfl ?_
  refine arun_nil ?_
  refine awp_seq ?_
  refine awp_cond _ rfl (fun h => ?_) (fun h => ?_)
  · have hlt : i < 3 := by simp at h; omega
    clear h
    have hix := h3a i hlt
    have hC := kcheck_s (T i) (h3o i)
    have hhit := @fnz_hit (fun i => kE (T i)) i 3 hf hlt
    generalize hTx : T i = x at *
    refine awp_skip (awp_seq (awp_block (awp_seq ?_)))
    refine tx ?_
    refine r_pure (a_indexN Tryd.underlying93 sz44 Tryd.underlying44 rfl (by omega) (by omega) (show _ = x.cells by rw [Int.toNat_natCast]; exact hix)) rfl rfl ?_
    refine r_run (a_alloc 5 zr44 rfl) rfl rfl ⟨rfl, trivial⟩ ?_
    refine r_run (a_storeAll (Y := .agg x.cells) sz44 rfl rfl (Nat.eq_of_beq_eq_true rfl)) rfl rfl ⟨rfl, trivial⟩ ?_
    refine arun_nil ?_
    refine awp_seq ?_
    refine tx ?_
    refine r_run (a_loadN Tryd.underlying44 rfl sz44 (by first | exact Nat.le_of_ble_eq_true rfl | omega | (simp only [AV.cells, List.length_map]; omega)) (show _ = x.cells from rfl)) rfl rfl ⟨rfl, trivial⟩ ?_
    refine r_callS (fun n => 36 + 1000 * n) (hC) rfl rfl Tryd.func49 rfl rfl (by first | rfl | simp [AV.okInL, AV.okIn, okInL_map]) rfl rfl rfl (by first | exact trivial | exact ⟨rfl, trivial⟩ | exact ⟨rfl, rfl, trivial⟩) rfl rfl rfl ?_
    refine aP rfl rfl ?_
    refine arun_nil ?_
    refine awp_seq ?_
    refine tx ?_
    refine mP rfl rfl ?_
    refine r_pure a_neq rfl rfl ?_
    refine arun_nil ?_
    refine thn_n ?_
    refine awp_cond _ rfl (fun h => ?_) (fun h => ?_)
    · have hne : kE x ≠ 0 := by simpa using h
      rw [hks, hhit hne, if_pos hne] at hE
      subst hE
      refine awp_seq ?_
      refine tx ?_
      refine mP rfl rfl ?_
      refine aP rfl rfl ?_
      refine arun_nil ?_
      refine awp_ret (inb_r (thn_r (thn_r (inb_r (thn_r ?_)))))
      refine fT (fun o => o) (.tmp _ _ _ _ rfl .nil) ?_ ?_
      · exact rfl
      · exact trivial
    have he : kE x = 0 := by simpa using h
    refine awp_skip (inb_n (thn_n ?_))
    refine tx ?_
    refine r_pure (a_add (by first | exact IntWalk.i64_in _ (by omega) | rfl)) rfl rfl ?_
    refine mP rfl rfl ?_
    refine arun_nil ?_
    refine thn_n ?_
    refine ⟨m - 1, by omega, _, re_of id _ _ ?_ ?_ rfl, i + 1, by omega, fun j hj => ?_, rfl⟩
    · (repeat (first | exact trivial | (refine ⟨⟨(by first | rfl | (simp; done) | (simp; omega)), rfl⟩, ?_⟩)))
    · exact ⟨⟨rfl, rfl⟩, trivial⟩
    · by_cases ej : j = i
      · rw [ej, hTx]; exact he
      · exact hf j (by omega)
  have hge : i = 3 := by simp at h; omega
  clear h
  subst hge
  rw [hks, fnz_ok hf, if_neg (by simp)] at hE
  clear hf h3a h3o hks hT
  obtain ⟨lv, mine, nc, hb, hs⟩ := h0
  unfold hsE at hE
  dsimp only at hE
  have hN := hexBytes_s nc
  refine awp_exit (awp_seq ?_)
  refine tx ?_
  refine fA fi51_3 rfl rfl ?_
  refine r_run (a_loadN Tryd.underlying48 rfl sz48 (by first | exact Nat.le_of_ble_eq_true rfl | omega | (simp only [AV.cells, List.length_map]; omega)) (show _ = [.p (.v (.bool lv)), .p (.v (.int .i64 mine)), .p (.v (.string nc)), .p (.v (.int .i64 hb)), .p (.v (.int .i64 hs))] from rfl)) rfl rfl ⟨rfl, trivial⟩ ?_
  refine r_run (a_alloc 7 zr48 rfl) rfl rfl ⟨rfl, trivial⟩ ?_
  refine r_run (a_storeAll (Y := .agg [.p (.v (.bool lv)), .p (.v (.int .i64 mine)), .p (.v (.string nc)), .p (.v (.int .i64 hb)), .p (.v (.int .i64 hs))]) sz48 rfl rfl (Nat.eq_of_beq_eq_true rfl)) rfl rfl ⟨rfl, trivial⟩ ?_
  refine arun_nil ?_
  cases lv with
  | false =>
    rw [if_pos rfl] at hE
    by_cases hz : mine = 0 ∧ nc = ⟨#[]⟩ ∧ hb = 0 ∧ hs = 0
    · rw [if_pos hz, if_neg (by simp)] at hE
      refine awp_seq (awp_seq ?_)
      refine tx ?_
      refine fA fi48_0 rfl rfl ?_
      refine l1 Tryd.underlying4 rfl rfl rfl ⟨rfl, trivial⟩ ?_
      refine r_pure a_not rfl rfl ?_
      refine mP rfl rfl ?_
      refine r_run (a_loadN Tryd.underlying48 rfl sz48 (by first | exact Nat.le_of_ble_eq_true rfl | omega | (simp only [AV.cells, List.length_map]; omega)) (show _ = [.p (.v (.bool false)), .p (.v (.int .i64 mine)), .p (.v (.string nc)), .p (.v (.int .i64 hb)), .p (.v (.int .i64 hs))] from rfl)) rfl rfl ⟨rfl, trivial⟩ ?_
      refine r_pure (b_build pl48 zr48 rfl rfl) rfl rfl ?_
      refine r_pure (a_stneqV Tryd.underlying48 rfl rfl (by kernel_rfl) (by kernel_rfl) (by kernel_rfl) (c := false) (by rw [eqHand]; simp [hz])) rfl rfl ?_
      refine r_pure a_pickT rfl rfl ?_
      refine arun_nil ?_
      refine thn_n ?_
      refine awp_cF rfl ?_
      refine awp_skip (awp_seq (awp_seq ?_))
      refine tx ?_
      refine fA fi48_0 rfl rfl ?_
      refine l1 Tryd.underlying4 rfl rfl rfl ⟨rfl, trivial⟩ ?_
      refine arun_nil ?_
      refine thn_n ?_
      refine awp_cF rfl ?_
      by_cases h4 : ep ≠ ⟨#[]⟩ ∧ e1 ≠ 0
      · rw [if_pos h4] at hE
        subst hE
        refine awp_skip (awp_seq (awp_seq ?_))
        refine tx ?_
        refine fA fi51_1 rfl rfl ?_
        refine l1 Tryd.underlying9 rfl rfl rfl ⟨rfl, trivial⟩ ?_
        refine r_pure a_sneq rfl rfl ?_
        refine arun_nil ?_
        refine thn_n ?_
        refine awp_cond _ rfl (fun h => ?_) (fun h => ?_)
        · refine awp_seq ?_
          refine tx ?_
          refine fA fi51_1 rfl rfl ?_
          refine l1 Tryd.underlying9 rfl rfl rfl ⟨rfl, trivial⟩ ?_
          refine r_callV (fun n => 97 + 1000 * n) (hEn) rfl rfl Tryd.func12 rfl rfl (by first | rfl | simp [AV.noSl, AV.noSlL, AObj.noSl, PV.isV, bs_noSl]) (by first | rfl | simp [AV.noSl, AV.noSlL, AObj.noSl, PV.isV, bs_noSl]) rfl rfl rfl (by first | exact trivial | exact ⟨rfl, trivial⟩ | exact ⟨rfl, rfl, trivial⟩) rfl rfl rfl ?_
          refine r_pure (a_move (r := .tup _)) rfl rfl ?_
          refine r_pure (a_extract rfl) rfl rfl ?_
          refine r_pure (a_extract rfl) rfl rfl ?_
          refine r_pure (a_extract rfl) rfl rfl ?_
          refine aP rfl rfl ?_
          refine aP rfl rfl ?_
          refine aP rfl rfl ?_
          refine arun_nil ?_
          refine awp_seq ?_
          refine tx ?_
          refine mP rfl rfl ?_
          refine r_pure a_neq rfl rfl ?_
          refine arun_nil ?_
          refine thn_n ?_
          refine awp_cond _ rfl (fun h => ?_) (fun h => ?_)
          · refine awp_seq ?_
            refine tx ?_
            refine mP rfl rfl ?_
            refine aP rfl rfl ?_
            refine arun_nil ?_
            refine awp_ret (thn_r ?_)
            refine fT (fun o => o) (.tmp _ _ _ _ rfl .nil) ?_ ?_
            · exact rfl
            · exact trivial
          · exact absurd (by simpa using h) h4.2
        · exact absurd (by simpa using h) h4.1
      rw [if_neg h4] at hE
      refine awp_skip (awp_seq (awp_seq ?_))
      refine tx ?_
      refine fA fi51_1 rfl rfl ?_
      refine l1 Tryd.underlying9 rfl rfl rfl ⟨rfl, trivial⟩ ?_
      refine r_pure a_sneq rfl rfl ?_
      refine arun_nil ?_
      refine thn_n ?_
      refine awp_join2 (St.of [(1, .ref 1 0)] [(1, .box 51 (stC key ep a b c ⟨false, mine, nc, hb, hs⟩ q.length (q.flatMap PQ.pv)))]) ?_ ?_
      · skip
        refine awp_cond _ rfl (fun h => ?_) (fun h => ?_)
        · refine awp_seq ?_
          refine tx ?_
          refine fA fi51_1 rfl rfl ?_
          refine l1 Tryd.underlying9 rfl rfl rfl ⟨rfl, trivial⟩ ?_
          refine r_callV (fun n => 97 + 1000 * n) (hEn) rfl rfl Tryd.func12 rfl rfl (by first | rfl | simp [AV.noSl, AV.noSlL, AObj.noSl, PV.isV, bs_noSl]) (by first | rfl | simp [AV.noSl, AV.noSlL, AObj.noSl, PV.isV, bs_noSl]) rfl rfl rfl (by first | exact trivial | exact ⟨rfl, trivial⟩ | exact ⟨rfl, rfl, trivial⟩) rfl rfl rfl ?_
          refine r_pure (a_move (r := .tup _)) rfl rfl ?_
          refine r_pure (a_extract rfl) rfl rfl ?_
          refine r_pure (a_extract rfl) rfl rfl ?_
          refine r_pure (a_extract rfl) rfl rfl ?_
          refine aP rfl rfl ?_
          refine aP rfl rfl ?_
          refine aP rfl rfl ?_
          refine arun_nil ?_
          refine awp_seq ?_
          refine tx ?_
          refine mP rfl rfl ?_
          refine r_pure a_neq rfl rfl ?_
          refine arun_nil ?_
          refine thn_n ?_
          refine awp_cond _ rfl (fun h => ?_) (fun h => ?_)
          · exact absurd ⟨by simp_all, by simpa using h⟩ h4
          · refine awp_skip (thn_n ?_)
            exact re_of id _ _ (by repeat (first | exact trivial | refine ⟨⟨rfl, rfl⟩, ?_⟩)) (by repeat (first | exact trivial | refine ⟨⟨rfl, rfl⟩, ?_⟩)) rfl
        · refine awp_skip (thn_n ?_)
          exact re_of id _ _ (by repeat (first | exact trivial | refine ⟨⟨rfl, rfl⟩, ?_⟩)) (by repeat (first | exact trivial | refine ⟨⟨rfl, rfl⟩, ?_⟩)) rfl
      clear h4
      refine awp_seq (awp_seq ?_)
      refine tx ?_
      refine fA fi51_4 rfl rfl ?_
      refine l1 Tryd.underlying49 rfl rfl rfl ⟨rfl, trivial⟩ ?_
      refine r_pure (a_lenS Tryd.underlying49) rfl rfl ?_
      refine r_pure a_gtr rfl rfl ?_
      refine arun_nil ?_
      refine thn_n ?_
      refine awp_cond _ rfl (fun h => ?_) (fun h => ?_)
      · have h5 : 3 < q.length := by simp at h; omega
        rw [if_pos h5] at hE
        subst hE
        refine awp_seq ?_
        refine tx ?_
        refine aP rfl rfl ?_
        refine arun_nil ?_
        refine awp_ret (thn_r ?_)
        refine fT (fun o => o) (.tmp _ _ _ _ rfl .nil) ?_ ?_
        · exact rfl
        · exact trivial
      have h5 : ¬ 3 < q.length := by simp at h; omega
      clear h
      rw [if_neg h5] at hE
      unfold pqE at hE
      obtain ⟨f, hF⟩ : ∃ f, (fun i => if 200 < (pqG q i).xs.length then 1 else 0 : Nat → Int) = f := ⟨_, rfl⟩
      rw [hF] at hE
      refine awp_skip (awp_seq (awp_seq ?_))
      refine tx ?_
      refine fA fi51_4 rfl rfl ?_
      refine l1 Tryd.underlying49 rfl rfl rfl ⟨rfl, trivial⟩ ?_
      refine r_pure (a_lenS Tryd.underlying49) rfl rfl ?_
      refine mP rfl rfl ?_
      refine arun_nil ?_
      refine awp_block ?_
      refine awp_loopR (fun m st => ∃ i : Nat, m + i = q.length ∧ (∀ j, j < i → f j = 0) ∧ st = St.of [(109, .p (.sl q.length 3 (q.flatMap PQ.pv))), (110, .p (.v (.int .i64 q.length))), (111, .p (.v (.int .i64 i)))] []) q.length ?_ ?_
      · refine ⟨_, re_of id _ _ ?_ ?_ rfl, 0, by omega, by omega, rfl⟩
        · (repeat (first | exact trivial | (refine ⟨⟨(by first | rfl | (simp; done) | (simp; omega)), rfl⟩, ?_⟩)))
        · trivial
      rintro m st ⟨i, hi, hf, rfl⟩
      refine awp_seq ?_
      refine tx ?_
      refine r_pure a_lss rfl rfl ?_
      refine arun_nil ?_
      refine awp_seq ?_
      refine awp_cond _ rfl (fun h => ?_) (fun h => ?_)
      · have hlt : i < q.length := by simp at h; omega
        clear h
        obtain ⟨p, hp⟩ : ∃ p, q[i]? = some p := ⟨q[i], List.getElem?_eq_getElem hlt⟩
        have hch := chunk_at (f := PQ.pv) (k := 3) (fun _ => rfl) hp
        have hle := chunk_le (f := PQ.pv) (k := 3) (fun _ => rfl) hlt
        have hpx := hqx p (List.mem_of_getElem? hp)
        have hhit := @fnz_hit f i q.length hf hlt
        have hfi : f i = if 200 < p.xs.length then 1 else 0 := by rw [← hF]; show (if 200 < (pqG q i).xs.length then (1 : Int) else 0) = _; rw [show pqG q i = p by unfold pqG; rw [List.getD_eq_getElem?_getD, hp]; rfl]
        obtain ⟨pa, pb, xs⟩ := p
        dsimp only at hpx hfi
        change _ = [PV.v (.int .u32 pa), .v (.int .u32 pb), .sl xs.length 1 (bs xs)] at hch
        have hC := pchk_s pa pb xs.length (bs xs) (by omega)
        generalize hL : q.flatMap PQ.pv = L at *
        generalize bs xs = X at *
        generalize xs.length = N at *
        refine awp_skip (awp_seq (awp_block (awp_seq ?_)))
        refine tx ?_
        refine r_pure (a_indexAddrS Tryd.underlying49 sz99 (by omega) (by omega) rfl) rfl rfl ?_
        refine r_pure (a_loadNp Tryd.underlying99 rfl sz99 (by rw [List.length_drop]; omega) (hch)) rfl rfl ?_
        refine r_run (a_alloc 14 zr99 rfl) rfl rfl ⟨rfl, trivial⟩ ?_
        refine r_run (a_storeAll (Y := .agg [.p (.v (.int .u32 pa)), .p (.v (.int .u32 pb)), .p (.sl N 1 X)]) sz99 rfl rfl (Nat.eq_of_beq_eq_true rfl)) rfl rfl ⟨rfl, trivial⟩ ?_
        refine arun_nil ?_
        by_cases h6 : 200 < N
        · rw [if_pos h6] at hC hfi
          rw [hhit (by rw [hfi]; decide), hfi] at hE
          subst hE
          refine awp_seq ?_
          refine tx ?_
          refine lN Tryd.underlying99 rfl sz99 rfl rfl ⟨rfl, trivial⟩ ?_
          refine r_callS (fun n => 116 + 1000 * n) (hC) rfl rfl Tryd.func51 rfl rfl (by first | rfl | simp [AV.okInL, AV.okIn, okInL_map]) rfl rfl rfl (by first | exact trivial | exact ⟨rfl, trivial⟩ | exact ⟨rfl, rfl, trivial⟩) rfl rfl rfl ?_
          refine aP rfl rfl ?_
          refine arun_nil ?_
          refine awp_seq ?_
          refine tx ?_
          refine mP rfl rfl ?_
          refine r_pure a_neq rfl rfl ?_
          refine arun_nil ?_
          refine thn_n ?_
          refine awp_cT rfl ?_
          refine awp_seq ?_
          refine tx ?_
          refine mP rfl rfl ?_
          refine aP rfl rfl ?_
          refine arun_nil ?_
          refine awp_ret (inb_r (thn_r (thn_r (inb_r (thn_r ?_)))))
          refine fT (fun o => o) (.tmp _ _ _ _ rfl .nil) ?_ ?_
          · exact rfl
          · exact trivial
        · rw [if_neg h6] at hC
          refine awp_seq ?_
          refine tx ?_
          refine lN Tryd.underlying99 rfl sz99 rfl rfl ⟨rfl, trivial⟩ ?_
          refine r_callS (fun n => 116 + 1000 * n) (hC) rfl rfl Tryd.func51 rfl rfl (by first | rfl | simp [AV.okInL, AV.okIn, okInL_map]) rfl rfl rfl (by first | exact trivial | exact ⟨rfl, trivial⟩ | exact ⟨rfl, rfl, trivial⟩) rfl rfl rfl ?_
          refine aP rfl rfl ?_
          refine arun_nil ?_
          refine awp_seq ?_
          refine tx ?_
          refine mP rfl rfl ?_
          refine r_pure a_neqT rfl rfl ?_
          refine arun_nil ?_
          refine thn_n ?_
          refine awp_cF rfl ?_
          refine awp_skip (inb_n (thn_n ?_))
          refine tx ?_
          refine r_pure (a_add (by first | exact IntWalk.i64_in _ (by omega) | rfl)) rfl rfl ?_
          refine mP rfl rfl ?_
          refine arun_nil ?_
          refine thn_n ?_
          refine ⟨m - 1, by omega, _, re_of id _ _ ?_ ?_ rfl, i + 1, by omega, fun j hj => ?_, rfl⟩
          · (repeat (first | exact trivial | (refine ⟨⟨(by first | rfl | (simp; done) | (simp; omega)), rfl⟩, ?_⟩)))
          · trivial
          · by_cases ej : j = i
            · rw [ej, hfi, if_neg h6]
            · exact hf j (by omega)
      have hge : i = q.length := by simp at h; omega
      clear h
      subst hge
      rw [fnz_ok hf] at hE
      subst hE
      refine awp_exit (awp_seq ?_)
      refine tx ?_
      refine aP rfl rfl ?_
      refine arun_nil ?_
      refine awp_ret ?_
      refine fT (fun o => o) (.tmp _ _ _ _ rfl .nil) ?_ ?_
      · exact rfl
      · exact trivial
    · rw [if_neg hz, if_pos (by decide)] at hE
      subst hE
      refine awp_seq (awp_seq ?_)
      refine tx ?_
      refine fA fi48_0 rfl rfl ?_
      refine l1 Tryd.underlying4 rfl rfl rfl ⟨rfl, trivial⟩ ?_
      refine r_pure a_not rfl rfl ?_
      refine mP rfl rfl ?_
      refine r_run (a_loadN Tryd.underlying48 rfl sz48 (by first | exact Nat.le_of_ble_eq_true rfl | omega | (simp only [AV.cells, List.length_map]; omega)) (show _ = [.p (.v (.bool false)), .p (.v (.int .i64 mine)), .p (.v (.string nc)), .p (.v (.int .i64 hb)), .p (.v (.int .i64 hs))] from rfl)) rfl rfl ⟨rfl, trivial⟩ ?_
      refine r_pure (b_build pl48 zr48 rfl rfl) rfl rfl ?_
      refine r_pure (a_stneqV Tryd.underlying48 rfl rfl (by kernel_rfl) (by kernel_rfl) (by kernel_rfl) (c := true) (by rw [eqHand]; simp only [Bool.not_eq_true', decide_eq_false_iff_not]; exact hz)) rfl rfl ?_
      refine r_pure a_pickT rfl rfl ?_
      refine arun_nil ?_
      refine thn_n ?_
      refine awp_cT rfl ?_
      refine awp_seq ?_
      refine tx ?_
      refine aP rfl rfl ?_
      refine arun_nil ?_
      refine awp_ret (thn_r ?_)
      refine fT (fun o => o) (.tmp _ _ _ _ rfl .nil) ?_ ?_
      · exact rfl
      · exact trivial
  | true =>
    rw [if_neg (show ¬ true = false by decide)] at hE
    refine awp_seq (awp_seq ?_)
    refine tx ?_
    refine fA fi48_0 rfl rfl ?_
    refine l1 Tryd.underlying4 rfl rfl rfl ⟨rfl, trivial⟩ ?_
    refine r_pure a_not rfl rfl ?_
    refine mP rfl rfl ?_
    refine r_skipG rfl ?_
    refine r_skipG rfl ?_
    refine r_skipG rfl ?_
    refine r_pure a_pickF rfl rfl ?_
    refine arun_nil ?_
    refine thn_n ?_
    refine awp_cF rfl ?_
    refine awp_skip (awp_seq (awp_seq ?_))
    refine tx ?_
    refine fA fi48_0 rfl rfl ?_
    refine l1 Tryd.underlying4 rfl rfl rfl ⟨rfl, trivial⟩ ?_
    refine arun_nil ?_
    refine thn_n ?_
    refine awp_cT rfl ?_
    refine awp_seq (awp_seq ?_)
    refine tx ?_
    refine fA fi48_2 rfl rfl ?_
    refine l1 Tryd.underlying9 rfl rfl rfl ⟨rfl, trivial⟩ ?_
    refine r_pure (a_lenStr Tryd.underlying9) rfl rfl ?_
    refine r_pure a_neq rfl rfl ?_
    refine arun_nil ?_
    refine thn_n ?_
    refine awp_cond _ rfl (fun h => ?_) (fun h => ?_)
    · have h2 : nc.size ≠ 16 := by simp at h; omega
      rw [if_pos h2, if_pos (by decide)] at hE
      subst hE
      refine awp_seq ?_
      refine tx ?_
      refine aP rfl rfl ?_
      refine arun_nil ?_
      refine awp_ret (thn_r (thn_r ?_))
      refine fT (fun o => o) (.tmp _ _ _ _ rfl .nil) ?_ ?_
      · exact rfl
      · exact trivial
    have h2 : nc.size = 16 := by simp at h; omega
    clear h
    rw [if_neg (show ¬ nc.size ≠ 16 by simp [h2])] at hE
    by_cases h3 : hexE nc ≠ 0
    · rw [if_pos h3, if_pos h3] at hE
      obtain ⟨g1, g2⟩ := hexRes_bad rfl h3
      rw [g1, g2] at hN
      subst hE
      generalize hexE nc = he at *
      refine awp_skip (awp_seq (awp_seq ?_))
      refine tx ?_
      refine fA fi48_2 rfl rfl ?_
      refine l1 Tryd.underlying9 rfl rfl rfl ⟨rfl, trivial⟩ ?_
      refine r_callV (fun n => 60 + 1000 * n) (hN) rfl rfl Tryd.func50 rfl rfl (by first | rfl | simp [AV.noSl, AV.noSlL, AObj.noSl, PV.isV, bs_noSl]) (by first | rfl | simp [AV.noSl, AV.noSlL, AObj.noSl, PV.isV, bs_noSl]) rfl rfl rfl (by first | exact trivial | exact ⟨rfl, trivial⟩ | exact ⟨rfl, rfl, trivial⟩) rfl rfl rfl ?_
      refine r_pure (a_move (r := .tup _)) rfl rfl ?_
      refine r_pure (a_extract rfl) rfl rfl ?_
      refine r_pure (a_extract rfl) rfl rfl ?_
      refine aP rfl rfl ?_
      refine aP rfl rfl ?_
      refine arun_nil ?_
      refine awp_seq ?_
      refine tx ?_
      refine mP rfl rfl ?_
      refine r_pure a_neq rfl rfl ?_
      refine arun_nil ?_
      refine thn_n ?_
      refine awp_cond _ rfl (fun h => ?_) (fun h => ?_)
      · refine awp_seq ?_
        refine tx ?_
        refine mP rfl rfl ?_
        refine aP rfl rfl ?_
        refine arun_nil ?_
        refine awp_ret (thn_r (thn_r ?_))
        refine fT (fun o => o) (.tmp _ _ _ _ rfl .nil) ?_ ?_
        · exact rfl
        · exact trivial
      · exact absurd (by simpa using h) h3
    rw [if_neg h3] at hE
    replace h3 : hexE nc = 0 := Decidable.not_not.1 h3
    obtain ⟨g1, g2⟩ := hexRes_good h3
    rw [g1, g2] at hN
    clear g1 g2
    refine awp_skip (awp_seq (awp_seq ?_))
    refine tx ?_
    refine fA fi48_2 rfl rfl ?_
    refine l1 Tryd.underlying9 rfl rfl rfl ⟨rfl, trivial⟩ ?_
    refine r_callV (fun n => 60 + 1000 * n) (hN) rfl rfl Tryd.func50 rfl rfl (by first | rfl | simp [AV.noSl, AV.noSlL, AObj.noSl, PV.isV, bs_noSl]) (by first | rfl | simp [AV.noSl, AV.noSlL, AObj.noSl, PV.isV, bs_noSl]) rfl rfl rfl (by first | exact trivial | exact ⟨rfl, trivial⟩ | exact ⟨rfl, rfl, trivial⟩) rfl rfl rfl ?_
    refine r_pure (a_move (r := .tup _)) rfl rfl ?_
    refine r_pure (a_extract rfl) rfl rfl ?_
    refine r_pure (a_extract rfl) rfl rfl ?_
    refine r_pure (a_assign (r := .row _)) rfl rfl ?_
    refine aP rfl rfl ?_
    refine arun_nil ?_
    refine awp_seq ?_
    refine tx ?_
    refine mP rfl rfl ?_
    refine r_pure a_neqT rfl rfl ?_
    refine arun_nil ?_
    refine thn_n ?_
    refine awp_cF rfl ?_
    refine awp_skip (awp_seq ?_)
    refine tx ?_
    refine fA fi48_1 rfl rfl ?_
    refine l1 Tryd.underlying3 rfl rfl rfl ⟨rfl, trivial⟩ ?_
    refine r_pure a_lss rfl rfl ?_
    refine mP rfl rfl ?_
    refine mb2 _ rfl rfl (fun hb => (b_fieldAddr fi48_1 rfl)) (fun _ => trivial) ?_
    refine mb2 _ rfl rfl (fun hb => (a_load1 Tryd.underlying3 rfl (by first | rfl | assumption))) (fun _ => ⟨rfl, trivial⟩) ?_
    refine mb2 _ rfl rfl (fun hb => a_gtr) (fun _ => trivial) ?_
    refine r_pure (a_or (by first | exact id | (simp; done) | grind)) rfl rfl ?_
    refine mP rfl rfl ?_
    refine mb2 _ rfl rfl (fun hb => (b_fieldAddr fi48_3 rfl)) (fun _ => trivial) ?_
    refine mb2 _ rfl rfl (fun hb => (a_load1 Tryd.underlying3 rfl (by first | rfl | assumption))) (fun _ => ⟨rfl, trivial⟩) ?_
    refine mb2 _ rfl rfl (fun hb => a_lss) (fun _ => trivial) ?_
    refine r_pure (a_or (by first | exact id | (simp; done) | grind)) rfl rfl ?_
    refine mP rfl rfl ?_
    refine mb2 _ rfl rfl (fun hb => (b_fieldAddr fi48_4 rfl)) (fun _ => trivial) ?_
    refine mb2 _ rfl rfl (fun hb => (a_load1 Tryd.underlying3 rfl (by first | rfl | assumption))) (fun _ => ⟨rfl, trivial⟩) ?_
    refine mb2 _ rfl rfl (fun hb => (b_fieldAddr fi48_3 rfl)) (fun _ => trivial) ?_
    refine mb2 _ rfl rfl (fun hb => (a_load1 Tryd.underlying3 rfl (by first | rfl | assumption))) (fun _ => ⟨rfl, trivial⟩) ?_
    refine mb2 _ rfl rfl (fun hb => a_lss) (fun _ => trivial) ?_
    refine r_pure (a_or (by first | exact id | (simp; done) | grind)) rfl rfl ?_
    refine mP rfl rfl ?_
    refine mb2 _ rfl rfl (fun hb => (b_fieldAddr fi48_4 rfl)) (fun _ => trivial) ?_
    refine mb2 _ rfl rfl (fun hb => (a_load1 Tryd.underlying3 rfl (by first | rfl | assumption))) (fun _ => ⟨rfl, trivial⟩) ?_
    refine mb2 _ rfl rfl (fun hb => a_gtr) (fun _ => trivial) ?_
    refine r_pure (a_or (by first | exact id | (simp; done) | grind)) rfl rfl ?_
    refine arun_nil ?_
    refine thn_n ?_
    refine awp_cond _ rfl (fun h => ?_) (fun h => ?_)
    · have h5 : mine < 1 ∨ 4294967295 < mine ∨ hb < 0 ∨ hs < hb ∨ 1099511627776 < hs := by simp at h; omega
      rw [if_pos h5, if_pos (by decide)] at hE
      subst hE
      refine awp_seq ?_
      refine tx ?_
      refine aP rfl rfl ?_
      refine arun_nil ?_
      refine awp_ret (thn_r ?_)
      refine fT (fun o => o) (.tmp _ _ _ _ rfl .nil) ?_ ?_
      · exact rfl
      · exact trivial
    have h5 : ¬ (mine < 1 ∨ 4294967295 < mine ∨ hb < 0 ∨ hs < hb ∨ 1099511627776 < hs) := by simp at h; omega
    clear h
    rw [if_neg h5, if_neg (by simp)] at hE
    by_cases h4 : ep ≠ ⟨#[]⟩ ∧ e1 ≠ 0
    · rw [if_pos h4] at hE
      subst hE
      refine awp_skip (awp_seq (awp_seq ?_))
      refine tx ?_
      refine fA fi51_1 rfl rfl ?_
      refine l1 Tryd.underlying9 rfl rfl rfl ⟨rfl, trivial⟩ ?_
      refine r_pure a_sneq rfl rfl ?_
      refine arun_nil ?_
      refine thn_n ?_
      refine awp_cond _ rfl (fun h => ?_) (fun h => ?_)
      · refine awp_seq ?_
        refine tx ?_
        refine fA fi51_1 rfl rfl ?_
        refine l1 Tryd.underlying9 rfl rfl rfl ⟨rfl, trivial⟩ ?_
        refine r_callV (fun n => 97 + 1000 * n) (hEn) rfl rfl Tryd.func12 rfl rfl (by first | rfl | simp [AV.noSl, AV.noSlL, AObj.noSl, PV.isV, bs_noSl]) (by first | rfl | simp [AV.noSl, AV.noSlL, AObj.noSl, PV.isV, bs_noSl]) rfl rfl rfl (by first | exact trivial | exact ⟨rfl, trivial⟩ | exact ⟨rfl, rfl, trivial⟩) rfl rfl rfl ?_
        refine r_pure (a_move (r := .tup _)) rfl rfl ?_
        refine r_pure (a_extract rfl) rfl rfl ?_
        refine r_pure (a_extract rfl) rfl rfl ?_
        refine r_pure (a_extract rfl) rfl rfl ?_
        refine aP rfl rfl ?_
        refine aP rfl rfl ?_
        refine aP rfl rfl ?_
        refine arun_nil ?_
        refine awp_seq ?_
        refine tx ?_
        refine mP rfl rfl ?_
        refine r_pure a_neq rfl rfl ?_
        refine arun_nil ?_
        refine thn_n ?_
        refine awp_cond _ rfl (fun h => ?_) (fun h => ?_)
        · refine awp_seq ?_
          refine tx ?_
          refine mP rfl rfl ?_
          refine aP rfl rfl ?_
          refine arun_nil ?_
          refine awp_ret (thn_r ?_)
          refine fT (fun o => o) (.tmp _ _ _ _ rfl .nil) ?_ ?_
          · exact rfl
          · exact trivial
        · exact absurd (by simpa using h) h4.2
      · exact absurd (by simpa using h) h4.1
    rw [if_neg h4] at hE
    refine awp_skip (awp_seq (awp_seq ?_))
    refine tx ?_
    refine fA fi51_1 rfl rfl ?_
    refine l1 Tryd.underlying9 rfl rfl rfl ⟨rfl, trivial⟩ ?_
    refine r_pure a_sneq rfl rfl ?_
    refine arun_nil ?_
    refine thn_n ?_
    refine awp_join2 (St.of [(1, .ref 1 0)] [(1, .box 51 (stC key ep a b c ⟨true, mine, nc, hb, hs⟩ q.length (q.flatMap PQ.pv)))]) ?_ ?_
    · skip
      refine awp_cond _ rfl (fun h => ?_) (fun h => ?_)
      · refine awp_seq ?_
        refine tx ?_
        refine fA fi51_1 rfl rfl ?_
        refine l1 Tryd.underlying9 rfl rfl rfl ⟨rfl, trivial⟩ ?_
        refine r_callV (fun n => 97 + 1000 * n) (hEn) rfl rfl Tryd.func12 rfl rfl (by first | rfl | simp [AV.noSl, AV.noSlL, AObj.noSl, PV.isV, bs_noSl]) (by first | rfl | simp [AV.noSl, AV.noSlL, AObj.noSl, PV.isV, bs_noSl]) rfl rfl rfl (by first | exact trivial | exact ⟨rfl, trivial⟩ | exact ⟨rfl, rfl, trivial⟩) rfl rfl rfl ?_
        refine r_pure (a_move (r := .tup _)) rfl rfl ?_
        refine r_pure (a_extract rfl) rfl rfl ?_
        refine r_pure (a_extract rfl) rfl rfl ?_
        refine r_pure (a_extract rfl) rfl rfl ?_
        refine aP rfl rfl ?_
        refine aP rfl rfl ?_
        refine aP rfl rfl ?_
        refine arun_nil ?_
        refine awp_seq ?_
        refine tx ?_
        refine mP rfl rfl ?_
        refine r_pure a_neq rfl rfl ?_
        refine arun_nil ?_
        refine thn_n ?_
        refine awp_cond _ rfl (fun h => ?_) (fun h => ?_)
        · exact absurd ⟨by simp_all, by simpa using h⟩ h4
        · refine awp_skip (thn_n ?_)
          exact re_of id _ _ (by repeat (first | exact trivial | refine ⟨⟨rfl, rfl⟩, ?_⟩)) (by repeat (first | exact trivial | refine ⟨⟨rfl, rfl⟩, ?_⟩)) rfl
      · refine awp_skip (thn_n ?_)
        exact re_of id _ _ (by repeat (first | exact trivial | refine ⟨⟨rfl, rfl⟩, ?_⟩)) (by repeat (first | exact trivial | refine ⟨⟨rfl, rfl⟩, ?_⟩)) rfl
    clear h4
    refine awp_seq (awp_seq ?_)
    refine tx ?_
    refine fA fi51_4 rfl rfl ?_
    refine l1 Tryd.underlying49 rfl rfl rfl ⟨rfl, trivial⟩ ?_
    refine r_pure (a_lenS Tryd.underlying49) rfl rfl ?_
    refine r_pure a_gtr rfl rfl ?_
    refine arun_nil ?_
    refine thn_n ?_
    refine awp_cond _ rfl (fun h => ?_) (fun h => ?_)
    · have h5 : 3 < q.length := by simp at h; omega
      rw [if_pos h5] at hE
      subst hE
      refine awp_seq ?_
      refine tx ?_
      refine aP rfl rfl ?_
      refine arun_nil ?_
      refine awp_ret (thn_r ?_)
      refine fT (fun o => o) (.tmp _ _ _ _ rfl .nil) ?_ ?_
      · exact rfl
      · exact trivial
    have h5 : ¬ 3 < q.length := by simp at h; omega
    clear h
    rw [if_neg h5] at hE
    unfold pqE at hE
    obtain ⟨f, hF⟩ : ∃ f, (fun i => if 200 < (pqG q i).xs.length then 1 else 0 : Nat → Int) = f := ⟨_, rfl⟩
    rw [hF] at hE
    refine awp_skip (awp_seq (awp_seq ?_))
    refine tx ?_
    refine fA fi51_4 rfl rfl ?_
    refine l1 Tryd.underlying49 rfl rfl rfl ⟨rfl, trivial⟩ ?_
    refine r_pure (a_lenS Tryd.underlying49) rfl rfl ?_
    refine mP rfl rfl ?_
    refine arun_nil ?_
    refine awp_block ?_
    refine awp_loopR (fun m st => ∃ i : Nat, m + i = q.length ∧ (∀ j, j < i → f j = 0) ∧ st = St.of [(109, .p (.sl q.length 3 (q.flatMap PQ.pv))), (110, .p (.v (.int .i64 q.length))), (111, .p (.v (.int .i64 i)))] []) q.length ?_ ?_
    · refine ⟨_, re_of id _ _ ?_ ?_ rfl, 0, by omega, by omega, rfl⟩
      · (repeat (first | exact trivial | (refine ⟨⟨(by first | rfl | (simp; done) | (simp; omega)), rfl⟩, ?_⟩)))
      · trivial
    rintro m st ⟨i, hi, hf, rfl⟩
    refine awp_seq ?_
    refine tx ?_
    refine r_pure a_lss rfl rfl ?_
    refine arun_nil ?_
    refine awp_seq ?_
    refine awp_cond _ rfl (fun h => ?_) (fun h => ?_)
    · have hlt : i < q.length := by simp at h; omega
      clear h
      obtain ⟨p, hp⟩ : ∃ p, q[i]? = some p := ⟨q[i], List.getElem?_eq_getElem hlt⟩
      have hch := chunk_at (f := PQ.pv) (k := 3) (fun _ => rfl) hp
      have hle := chunk_le (f := PQ.pv) (k := 3) (fun _ => rfl) hlt
      have hpx := hqx p (List.mem_of_getElem? hp)
      have hhit := @fnz_hit f i q.length hf hlt
      have hfi : f i = if 200 < p.xs.length then 1 else 0 := by rw [← hF]; show (if 200 < (pqG q i).xs.length then (1 : Int) else 0) = _; rw [show pqG q i = p by unfold pqG; rw [List.getD_eq_getElem?_getD, hp]; rfl]
      obtain ⟨pa, pb, xs⟩ := p
      dsimp only at hpx hfi
      change _ = [PV.v (.int .u32 pa), .v (.int .u32 pb), .sl xs.length 1 (bs xs)] at hch
      have hC := pchk_s pa pb xs.length (bs xs) (by omega)
      generalize hL : q.flatMap PQ.pv = L at *
      generalize bs xs = X at *
      generalize xs.length = N at *
      refine awp_skip (awp_seq (awp_block (awp_seq ?_)))
      refine tx ?_
      refine r_pure (a_indexAddrS Tryd.underlying49 sz99 (by omega) (by omega) rfl) rfl rfl ?_
      refine r_pure (a_loadNp Tryd.underlying99 rfl sz99 (by rw [List.length_drop]; omega) (hch)) rfl rfl ?_
      refine r_run (a_alloc 14 zr99 rfl) rfl rfl ⟨rfl, trivial⟩ ?_
      refine r_run (a_storeAll (Y := .agg [.p (.v (.int .u32 pa)), .p (.v (.int .u32 pb)), .p (.sl N 1 X)]) sz99 rfl rfl (Nat.eq_of_beq_eq_true rfl)) rfl rfl ⟨rfl, trivial⟩ ?_
      refine arun_nil ?_
      by_cases h6 : 200 < N
      · rw [if_pos h6] at hC hfi
        rw [hhit (by rw [hfi]; decide), hfi] at hE
        subst hE
        refine awp_seq ?_
        refine tx ?_
        refine lN Tryd.underlying99 rfl sz99 rfl rfl ⟨rfl, trivial⟩ ?_
        refine r_callS (fun n => 116 + 1000 * n) (hC) rfl rfl Tryd.func51 rfl rfl (by first | rfl | simp [AV.okInL, AV.okIn, okInL_map]) rfl rfl rfl (by first | exact trivial | exact ⟨rfl, trivial⟩ | exact ⟨rfl, rfl, trivial⟩) rfl rfl rfl ?_
        refine aP rfl rfl ?_
        refine arun_nil ?_
        refine awp_seq ?_
        refine tx ?_
        refine mP rfl rfl ?_
        refine r_pure a_neq rfl rfl ?_
        refine arun_nil ?_
        refine thn_n ?_
        refine awp_cT rfl ?_
        refine awp_seq ?_
        refine tx ?_
        refine mP rfl rfl ?_
        refine aP rfl rfl ?_
        refine arun_nil ?_
        refine awp_ret (inb_r (thn_r (thn_r (inb_r (thn_r ?_)))))
        refine fT (fun o => o) (.tmp _ _ _ _ rfl .nil) ?_ ?_
        · exact rfl
        · exact trivial
      · rw [if_neg h6] at hC
        refine awp_seq ?_
        refine tx ?_
        refine lN Tryd.underlying99 rfl sz99 rfl rfl ⟨rfl, trivial⟩ ?_
        refine r_callS (fun n => 116 + 1000 * n) (hC) rfl rfl Tryd.func51 rfl rfl (by first | rfl | simp [AV.okInL, AV.okIn, okInL_map]) rfl rfl rfl (by first | exact trivial | exact ⟨rfl, trivial⟩ | exact ⟨rfl, rfl, trivial⟩) rfl rfl rfl ?_
        refine aP rfl rfl ?_
        refine arun_nil ?_
        refine awp_seq ?_
        refine tx ?_
        refine mP rfl rfl ?_
        refine r_pure a_neq rfl rfl ?_
        refine arun_nil ?_
        refine thn_n ?_
        refine awp_cF rfl ?_
        refine awp_skip (inb_n (thn_n ?_))
        refine tx ?_
        refine r_pure (a_add (by first | exact IntWalk.i64_in _ (by omega) | rfl)) rfl rfl ?_
        refine mP rfl rfl ?_
        refine arun_nil ?_
        refine thn_n ?_
        refine ⟨m - 1, by omega, _, re_of id _ _ ?_ ?_ rfl, i + 1, by omega, fun j hj => ?_, rfl⟩
        · (repeat (first | exact trivial | (refine ⟨⟨(by first | rfl | (simp; done) | (simp; omega)), rfl⟩, ?_⟩)))
        · trivial
        · by_cases ej : j = i
          · rw [ej, hfi, if_neg h6]
          · exact hf j (by omega)
    have hge : i = q.length := by simp at h; omega
    clear h
    subst hge
    rw [fnz_ok hf] at hE
    subst hE
    refine awp_exit (awp_seq ?_)
    refine tx ?_
    refine aP rfl rfl ?_
    refine arun_nil ?_
    refine awp_ret ?_
    refine fT (fun o => o) (.tmp _ _ _ _ rfl .nil) ?_ ?_
    · exact rfl
    · exact trivial
set_option maxHeartbeats 4000000 in
theorem refState_s (s : ST) (ok : s.OK) : Fn Tryd.prog 26 [.agg s.cells] (.p (.v (.int .i64 (stE s)))) [] := by
  obtain ⟨key, ep, a, b, c, h0, q⟩ := s
  obtain ⟨hep, oa, ob, oc, hq, hqx⟩ := ok
  dsimp only at hep oa ob oc hq hqx
  obtain ⟨E, hE⟩ : ∃ E, stE ⟨key, ep, a, b, c, h0, q⟩ = E := ⟨_, rfl⟩
  rw [hE]
  unfold stE at hE
  dsimp only at hE
  have hK := refFault_s key
  have hEn := refEnd_s ep hep
  obtain ⟨ea, eb, hen⟩ := enR_e ep
  rw [hen] at hEn
  clear hen
  have h3a := three_atV a b c
  have h3o := three_ok oa ob oc
  have hks : ksE a b c = fnz (fun i => kE (three a b c i)) 3 := rfl
  generalize hT : three a b c = T at *
  show Fn Tryd.prog _ [.agg (stC key ep a b c h0 q.length (q.flatMap PQ.pv))] _ _
  generalize keyE key = k1 at *
  generalize enE ep = e1 at *
  refine fn_intro Tryd.func26 rfl (Nat.le_of_ble_eq_true rfl) fun w0 A => ?_
  refine awp_seq ?_
  refine tx ?_
  refine r_run (a_box (X := .agg _) 1 rfl) rfl rfl ⟨rfl, trivial⟩ ?_
  refine aP rfl rfl ?_
  refine arun_nil ?_
  refine awp_seq (awp_seq ?_)
  refine tx ?_
  refine fA fi51_0 rfl rfl ?_
  refine l1 Tryd.underlying9 rfl rfl rfl ⟨rfl, trivial⟩ ?_
  refine r_callV (fun n => 17 + 1000 * n) (hK) rfl rfl Tryd.func55 rfl rfl (by first | rfl | simp [AV.noSl, AV.noSlL, AObj.noSl, PV.isV, bs_noSl]) (by first | rfl | simp [AV.noSl, AV.noSlL, AObj.noSl, PV.isV, bs_noSl]) rfl rfl rfl (by first | exact trivial | exact ⟨rfl, trivial⟩ | exact ⟨rfl, rfl, trivial⟩) rfl rfl rfl ?_
  refine aP rfl rfl ?_
  refine arun_nil ?_
  refine awp_seq ?_
  refine tx ?_
  refine mP rfl rfl ?_
  refine r_pure a_neq rfl rfl ?_
  refine arun_nil ?_
  refine thn_n ?_
  refine awp_cond _ rfl (fun h => ?_) (fun h => ?_)
  · have h1 : k1 ≠ 0 := by simpa using h
    rw [if_pos h1] at hE
    subst hE
    refine awp_seq ?_
    refine tx ?_
    refine mP rfl rfl ?_
    refine aP rfl rfl ?_
    refine arun_nil ?_
    refine awp_ret (thn_r ?_)
    refine fT (fun o => o) (.tmp _ _ _ _ rfl .nil) ?_ ?_
    · exact rfl
    · exact trivial
  have h1 : k1 = 0 := by simpa using h
  clear h
  rw [if_neg (by simp [h1])] at hE
  refine awp_skip (awp_seq (awp_seq ?_))
  refine tx ?_
  refine fA fi51_2 rfl rfl ?_
  refine fA fi46_0 rfl rfl ?_
  refine r_run (a_loadN Tryd.underlying44 rfl sz44 (by first | exact Nat.le_of_ble_eq_true rfl | omega | (simp only [AV.cells, List.length_map]; omega)) (show _ = a.cells from rfl)) rfl rfl ⟨rfl, trivial⟩ ?_
  refine fA fi51_2 rfl rfl ?_
  refine fA fi46_1 rfl rfl ?_
  refine r_run (a_loadN Tryd.underlying44 rfl sz44 (by first | exact Nat.le_of_ble_eq_true rfl | omega | (simp only [AV.cells, List.length_map]; omega)) (show _ = b.cells from rfl)) rfl rfl ⟨rfl, trivial⟩ ?_
  refine fA fi51_2 rfl rfl ?_
  refine fA fi46_2 rfl rfl ?_
  refine r_run (a_loadN Tryd.underlying44 rfl sz44 (by first | exact Nat.le_of_ble_eq_true rfl | omega | (simp only [AV.cells, List.length_map]; omega)) (show _ = c.cells from rfl)) rfl rfl ⟨rfl, trivial⟩ ?_
  refine r_run (xs := [.agg a.cells, .agg b.cells, .agg c.cells]) (a_buildSlice (es := (a.cells ++ b.cells ++ c.cells)) (cs := (a.pv ++ b.pv ++ c.pv)) 30 Tryd.underlying106 sz44 zc44 (Nat.le_of_ble_eq_true rfl) (Nat.le_of_ble_eq_true rfl) rfl (by kernel_rfl) (by kernel_rfl) (by kernel_rfl) (Nat.le_of_ble_eq_true rfl)) (by first | rfl | kernel_rfl) rfl ⟨rfl, trivial⟩ ?_
  refine r_run (a_lenR Tryd.underlying106) rfl rfl ⟨rfl, trivial⟩ ?_
  refine mP rfl rfl ?_
  refine arun_nil ?_
  refine awp_block ?_
  refine awp_loopR (fun m st => ∃ i : Nat, m + i = 3 ∧ (∀ j, j < i → kE (T j) = 0) ∧ st = St.of [(1, .ref 1 0), (30, .row 30), (31, .p (.v (.int .i64 3))), (32, .p (.v (.int .i64 i)))] [(1, .box 51 (stC key ep a b c h0 q.length (q.flatMap PQ.pv))), (30, .row 44 11 3 (slots3V a b c))]) 3 ?_ ?_
  · refine ⟨_, re_of id _ _ ?_ ?_ rfl, 0, by omega, by omega, rfl⟩
    · (repeat (first | exact trivial | (refine ⟨⟨(by first | rfl | (simp; done) | (simp; omega)), rfl⟩, ?_⟩)))
    · exact ⟨⟨rfl, rfl⟩, ⟨rfl, rfl⟩, trivial⟩
  rintro m st ⟨i, hi, hf, rfl⟩
  refine awp_seq ?_
  refine tx ?_
  refine r_pure a_lss rfl rfl ?_
  refine arun_nil ?_
  refine awp_seq ?_
  refine awp_cond _ rfl (fun h => ?_) (fun h => ?_)
  · have hlt : i < 3 := by simp at h; omega
    clear h
    have hix := h3a i hlt
    have hsl : (slots3V a b c).length = 33 := rfl
    have hC := refKFault_s (T i) (h3o i)
    have hhit := @fnz_hit (fun i => kE (T i)) i 3 hf hlt
    generalize hTx : T i = x at *
    refine awp_skip (awp_seq (awp_block (awp_seq ?_)))
    refine tx ?_
    refine r_run (a_indexAddrR Tryd.underlying106 sz44 (by omega) (by omega) (show _ = i * 11 by omega)) rfl rfl ⟨rfl, trivial⟩ ?_
    refine r_run (a_loadNr Tryd.underlying44 rfl sz44 (by omega) (hix)) rfl rfl ⟨rfl, trivial⟩ ?_
    refine r_run (a_alloc 5 zr44 rfl) rfl rfl ⟨rfl, trivial⟩ ?_
    refine r_run (a_storeAll (Y := .agg x.cells) sz44 rfl rfl (Nat.eq_of_beq_eq_true rfl)) rfl rfl ⟨rfl, trivial⟩ ?_
    refine arun_nil ?_
    refine awp_seq ?_
    refine tx ?_
    refine r_run (a_loadN Tryd.underlying44 rfl sz44 (by first | exact Nat.le_of_ble_eq_true rfl | omega | (simp only [AV.cells, List.length_map]; omega)) (show _ = x.cells from rfl)) rfl rfl ⟨rfl, trivial⟩ ?_
    refine r_callS (fun n => 37 + 1000 * n) (hC) rfl rfl Tryd.func56 rfl rfl (by first | rfl | simp [AV.okInL, AV.okIn, okInL_map]) rfl rfl rfl (by first | exact trivial | exact ⟨rfl, trivial⟩ | exact ⟨rfl, rfl, trivial⟩) rfl rfl rfl ?_
    refine aP rfl rfl ?_
    refine arun_nil ?_
    refine awp_seq ?_
    refine tx ?_
    refine mP rfl rfl ?_
    refine r_pure a_neq rfl rfl ?_
    refine arun_nil ?_
    refine thn_n ?_
    refine awp_cond _ rfl (fun h => ?_) (fun h => ?_)
    · have hne : kE x ≠ 0 := by simpa using h
      rw [hks, hhit hne, if_pos hne] at hE
      subst hE
      refine awp_seq ?_
      refine tx ?_
      refine mP rfl rfl ?_
      refine aP rfl rfl ?_
      refine arun_nil ?_
      refine awp_ret (inb_r (thn_r (thn_r (inb_r (thn_r ?_)))))
      refine fT (fun o => o) (.tmp _ _ _ _ rfl .nil) ?_ ?_
      · exact rfl
      · exact trivial
    have he : kE x = 0 := by simpa using h
    refine awp_skip (inb_n (thn_n ?_))
    refine tx ?_
    refine r_pure (a_add (by first | exact IntWalk.i64_in _ (by omega) | rfl)) rfl rfl ?_
    refine mP rfl rfl ?_
    refine arun_nil ?_
    refine thn_n ?_
    refine ⟨m - 1, by omega, _, re_of id _ _ ?_ ?_ rfl, i + 1, by omega, fun j hj => ?_, rfl⟩
    · (repeat (first | exact trivial | (refine ⟨⟨(by first | rfl | (simp; done) | (simp; omega)), rfl⟩, ?_⟩)))
    · exact ⟨⟨rfl, rfl⟩, ⟨rfl, rfl⟩, trivial⟩
    · by_cases ej : j = i
      · rw [ej, hTx]; exact he
      · exact hf j (by omega)
  have hge : i = 3 := by simp at h; omega
  clear h
  subst hge
  rw [hks, fnz_ok hf, if_neg (by simp)] at hE
  clear hf h3a h3o hks hT
  obtain ⟨lv, mine, nc, hb, hs⟩ := h0
  unfold hsE at hE
  dsimp only at hE
  have hN := refBytes_s nc
  refine awp_exit (awp_seq ?_)
  refine tx ?_
  refine fA fi51_3 rfl rfl ?_
  refine r_run (a_loadN Tryd.underlying48 rfl sz48 (by first | exact Nat.le_of_ble_eq_true rfl | omega | (simp only [AV.cells, List.length_map]; omega)) (show _ = [.p (.v (.bool lv)), .p (.v (.int .i64 mine)), .p (.v (.string nc)), .p (.v (.int .i64 hb)), .p (.v (.int .i64 hs))] from rfl)) rfl rfl ⟨rfl, trivial⟩ ?_
  refine r_run (a_alloc 7 zr48 rfl) rfl rfl ⟨rfl, trivial⟩ ?_
  refine r_run (a_storeAll (Y := .agg [.p (.v (.bool lv)), .p (.v (.int .i64 mine)), .p (.v (.string nc)), .p (.v (.int .i64 hb)), .p (.v (.int .i64 hs))]) sz48 rfl rfl (Nat.eq_of_beq_eq_true rfl)) rfl rfl ⟨rfl, trivial⟩ ?_
  refine arun_nil ?_
  cases lv with
  | false =>
    rw [if_pos rfl] at hE
    refine awp_seq (awp_seq ?_)
    refine tx ?_
    refine fA fi48_0 rfl rfl ?_
    refine l1 Tryd.underlying4 rfl rfl rfl ⟨rfl, trivial⟩ ?_
    refine arun_nil ?_
    refine thn_n ?_
    refine awp_cF rfl ?_
    refine awp_seq ?_
    refine tx ?_
    refine fA fi48_1 rfl rfl ?_
    refine l1 Tryd.underlying3 rfl rfl rfl ⟨rfl, trivial⟩ ?_
    refine r_pure a_neq rfl rfl ?_
    refine mP rfl rfl ?_
    refine mb2 _ rfl rfl (fun hb => (b_fieldAddr fi48_2 rfl)) (fun _ => trivial) ?_
    refine mb2 _ rfl rfl (fun hb => (a_load1 Tryd.underlying9 rfl (by first | rfl | assumption))) (fun _ => ⟨rfl, trivial⟩) ?_
    refine mb2 _ rfl rfl (fun hb => a_sneq) (fun _ => trivial) ?_
    refine r_pure (a_or (by first | exact id | (simp; done) | grind)) rfl rfl ?_
    refine mP rfl rfl ?_
    refine mb2 _ rfl rfl (fun hb => (b_fieldAddr fi48_3 rfl)) (fun _ => trivial) ?_
    refine mb2 _ rfl rfl (fun hb => (a_load1 Tryd.underlying3 rfl (by first | rfl | assumption))) (fun _ => ⟨rfl, trivial⟩) ?_
    refine mb2 _ rfl rfl (fun hb => a_neq) (fun _ => trivial) ?_
    refine r_pure (a_or (by first | exact id | (simp; done) | grind)) rfl rfl ?_
    refine mP rfl rfl ?_
    refine mb2 _ rfl rfl (fun hb => (b_fieldAddr fi48_4 rfl)) (fun _ => trivial) ?_
    refine mb2 _ rfl rfl (fun hb => (a_load1 Tryd.underlying3 rfl (by first | rfl | assumption))) (fun _ => ⟨rfl, trivial⟩) ?_
    refine mb2 _ rfl rfl (fun hb => a_neq) (fun _ => trivial) ?_
    refine r_pure (a_or (by first | exact id | (simp; done) | grind)) rfl rfl ?_
    refine arun_nil ?_
    refine thn_n ?_
    refine awp_cond _ rfl (fun h => ?_) (fun h => ?_)
    · have hz : ¬ (mine = 0 ∧ nc = ⟨#[]⟩ ∧ hb = 0 ∧ hs = 0) := by
        intro ⟨z1, z2, z3, z4⟩
        simp [z1, z2, z3, z4] at h
      rw [if_neg hz, if_pos (by decide)] at hE
      subst hE
      refine awp_seq ?_
      refine tx ?_
      refine aP rfl rfl ?_
      refine arun_nil ?_
      refine awp_ret (thn_r ?_)
      refine fT (fun o => o) (.tmp _ _ _ _ rfl .nil) ?_ ?_
      · exact rfl
      · exact trivial
    have hz : mine = 0 ∧ nc = ⟨#[]⟩ ∧ hb = 0 ∧ hs = 0 := by
      simp at h
      grind
    clear h
    rw [if_pos hz, if_neg (by simp)] at hE
    refine awp_skip (awp_seq (awp_seq ?_))
    refine tx ?_
    refine fA fi51_1 rfl rfl ?_
    refine l1 Tryd.underlying9 rfl rfl rfl ⟨rfl, trivial⟩ ?_
    refine r_callV (fun n => 105 + 1000 * n) (hEn) rfl rfl Tryd.func14 rfl rfl (by first | rfl | simp [AV.noSl, AV.noSlL, AObj.noSl, PV.isV, bs_noSl]) (by first | rfl | simp [AV.noSl, AV.noSlL, AObj.noSl, PV.isV, bs_noSl]) rfl rfl rfl (by first | exact trivial | exact ⟨rfl, trivial⟩ | exact ⟨rfl, rfl, trivial⟩) rfl rfl rfl ?_
    refine r_pure (a_move (r := .tup _)) rfl rfl ?_
    refine r_pure (a_extract rfl) rfl rfl ?_
    refine r_pure (a_extract rfl) rfl rfl ?_
    refine r_pure (a_extract rfl) rfl rfl ?_
    refine aP rfl rfl ?_
    refine aP rfl rfl ?_
    refine aP rfl rfl ?_
    refine arun_nil ?_
    refine awp_seq ?_
    refine tx ?_
    refine fA fi51_1 rfl rfl ?_
    refine l1 Tryd.underlying9 rfl rfl rfl ⟨rfl, trivial⟩ ?_
    refine r_pure a_sneq rfl rfl ?_
    refine mP rfl rfl ?_
    refine mb2 _ rfl rfl (fun hb => (a_move (r := .p _))) (fun _ => trivial) ?_
    refine mb2 _ rfl rfl (fun hb => a_neq) (fun _ => trivial) ?_
    refine r_pure (a_and (by first | exact id | (simp; done) | grind)) rfl rfl ?_
    refine arun_nil ?_
    refine thn_n ?_
    refine awp_cond _ rfl (fun h => ?_) (fun h => ?_)
    · have h4 : ep ≠ ⟨#[]⟩ ∧ e1 ≠ 0 := by simpa using h
      rw [if_pos h4] at hE
      subst hE
      refine awp_seq ?_
      refine tx ?_
      refine mP rfl rfl ?_
      refine aP rfl rfl ?_
      refine arun_nil ?_
      refine awp_ret (thn_r ?_)
      refine fT (fun o => o) (.tmp _ _ _ _ rfl .nil) ?_ ?_
      · exact rfl
      · exact trivial
    have h4 : ¬ (ep ≠ ⟨#[]⟩ ∧ e1 ≠ 0) := by
      intro ⟨h5, h6⟩
      simp [h5, h6] at h
    clear h
    rw [if_neg h4] at hE
    refine awp_skip (awp_seq (awp_seq ?_))
    refine tx ?_
    refine fA fi51_4 rfl rfl ?_
    refine l1 Tryd.underlying49 rfl rfl rfl ⟨rfl, trivial⟩ ?_
    refine r_pure (a_lenS Tryd.underlying49) rfl rfl ?_
    refine r_pure a_gtr rfl rfl ?_
    refine arun_nil ?_
    refine thn_n ?_
    refine awp_cond _ rfl (fun h => ?_) (fun h => ?_)
    · have h5 : 3 < q.length := by simp at h; omega
      rw [if_pos h5] at hE
      subst hE
      refine awp_seq ?_
      refine tx ?_
      refine aP rfl rfl ?_
      refine arun_nil ?_
      refine awp_ret (thn_r ?_)
      refine fT (fun o => o) (.tmp _ _ _ _ rfl .nil) ?_ ?_
      · exact rfl
      · exact trivial
    have h5 : ¬ 3 < q.length := by simp at h; omega
    clear h
    rw [if_neg h5] at hE
    unfold pqE at hE
    obtain ⟨f, hF⟩ : ∃ f, (fun i => if 200 < (pqG q i).xs.length then 1 else 0 : Nat → Int) = f := ⟨_, rfl⟩
    rw [hF] at hE
    refine awp_skip (awp_seq (awp_seq ?_))
    refine tx ?_
    refine fA fi51_4 rfl rfl ?_
    refine l1 Tryd.underlying49 rfl rfl rfl ⟨rfl, trivial⟩ ?_
    refine r_pure (a_lenS Tryd.underlying49) rfl rfl ?_
    refine mP rfl rfl ?_
    refine arun_nil ?_
    refine awp_block ?_
    refine awp_loopR (fun m st => ∃ i : Nat, m + i = q.length ∧ (∀ j, j < i → f j = 0) ∧ st = St.of [(122, .p (.sl q.length 3 (q.flatMap PQ.pv))), (123, .p (.v (.int .i64 q.length))), (124, .p (.v (.int .i64 i)))] []) q.length ?_ ?_
    · refine ⟨_, re_of id _ _ ?_ ?_ rfl, 0, by omega, by omega, rfl⟩
      · (repeat (first | exact trivial | (refine ⟨⟨(by first | rfl | (simp; done) | (simp; omega)), rfl⟩, ?_⟩)))
      · trivial
    rintro m st ⟨i, hi, hf, rfl⟩
    refine awp_seq ?_
    refine tx ?_
    refine r_pure a_lss rfl rfl ?_
    refine arun_nil ?_
    refine awp_seq ?_
    refine awp_cond _ rfl (fun h => ?_) (fun h => ?_)
    · have hlt : i < q.length := by simp at h; omega
      clear h
      obtain ⟨p, hp⟩ : ∃ p, q[i]? = some p := ⟨q[i], List.getElem?_eq_getElem hlt⟩
      have hch := chunk_at (f := PQ.pv) (k := 3) (fun _ => rfl) hp
      have hle := chunk_le (f := PQ.pv) (k := 3) (fun _ => rfl) hlt
      have hpx := hqx p (List.mem_of_getElem? hp)
      have hhit := @fnz_hit f i q.length hf hlt
      have hfi : f i = if 200 < p.xs.length then 1 else 0 := by rw [← hF]; show (if 200 < (pqG q i).xs.length then (1 : Int) else 0) = _; rw [show pqG q i = p by unfold pqG; rw [List.getD_eq_getElem?_getD, hp]; rfl]
      obtain ⟨pa, pb, xs⟩ := p
      dsimp only at hpx hfi
      change _ = [PV.v (.int .u32 pa), .v (.int .u32 pb), .sl xs.length 1 (bs xs)] at hch
      have hC := pchk_s pa pb xs.length (bs xs) (by omega)
      generalize hL : q.flatMap PQ.pv = L at *
      generalize bs xs = X at *
      generalize xs.length = N at *
      refine awp_skip (awp_seq (awp_block (awp_seq ?_)))
      refine tx ?_
      refine r_pure (a_indexAddrS Tryd.underlying49 sz99 (by omega) (by omega) rfl) rfl rfl ?_
      refine r_pure (a_loadNp Tryd.underlying99 rfl sz99 (by rw [List.length_drop]; omega) (hch)) rfl rfl ?_
      refine r_run (a_alloc 14 zr99 rfl) rfl rfl ⟨rfl, trivial⟩ ?_
      refine r_run (a_storeAll (Y := .agg [.p (.v (.int .u32 pa)), .p (.v (.int .u32 pb)), .p (.sl N 1 X)]) sz99 rfl rfl (Nat.eq_of_beq_eq_true rfl)) rfl rfl ⟨rfl, trivial⟩ ?_
      refine arun_nil ?_
      refine awp_seq ?_
      refine tx ?_
      refine fA fi99_2 rfl rfl ?_
      refine l1 Tryd.underlying95 rfl rfl rfl ⟨rfl, trivial⟩ ?_
      refine r_pure (a_lenS Tryd.underlying95) rfl rfl ?_
      refine r_pure a_gtr rfl rfl ?_
      refine arun_nil ?_
      refine thn_n ?_
      refine awp_cond _ rfl (fun h => ?_) (fun h => ?_)
      · have h6 : 200 < N := by simp at h; omega
        rw [if_pos h6] at hfi
        rw [hhit (by rw [hfi]; decide), hfi] at hE
        subst hE
        refine awp_seq ?_
        refine tx ?_
        refine aP rfl rfl ?_
        refine arun_nil ?_
        refine awp_ret (inb_r (thn_r (thn_r (inb_r (thn_r ?_)))))
        refine fT (fun o => o) (.tmp _ _ _ _ rfl .nil) ?_ ?_
        · exact rfl
        · exact trivial
      · have h6 : ¬ 200 < N := by simp at h; omega
        clear h
        refine awp_skip (inb_n (thn_n ?_))
        refine tx ?_
        refine r_pure (a_add (by first | exact IntWalk.i64_in _ (by omega) | rfl)) rfl rfl ?_
        refine mP rfl rfl ?_
        refine arun_nil ?_
        refine thn_n ?_
        refine ⟨m - 1, by omega, _, re_of id _ _ ?_ ?_ rfl, i + 1, by omega, fun j hj => ?_, rfl⟩
        · (repeat (first | exact trivial | (refine ⟨⟨(by first | rfl | (simp; done) | (simp; omega)), rfl⟩, ?_⟩)))
        · trivial
        · by_cases ej : j = i
          · rw [ej, hfi, if_neg h6]
          · exact hf j (by omega)
    have hge : i = q.length := by simp at h; omega
    clear h
    subst hge
    rw [fnz_ok hf] at hE
    subst hE
    refine awp_exit (awp_seq ?_)
    refine tx ?_
    refine aP rfl rfl ?_
    refine arun_nil ?_
    refine awp_ret ?_
    refine fT (fun o => o) (.tmp _ _ _ _ rfl .nil) ?_ ?_
    · exact rfl
    · exact trivial
  | true =>
    rw [if_neg (show ¬ true = false by decide)] at hE
    refine awp_seq (awp_seq ?_)
    refine tx ?_
    refine fA fi48_0 rfl rfl ?_
    refine l1 Tryd.underlying4 rfl rfl rfl ⟨rfl, trivial⟩ ?_
    refine arun_nil ?_
    refine thn_n ?_
    refine awp_cT rfl ?_
    refine awp_seq (awp_seq ?_)
    refine tx ?_
    refine fA fi48_2 rfl rfl ?_
    refine l1 Tryd.underlying9 rfl rfl rfl ⟨rfl, trivial⟩ ?_
    refine r_pure (a_lenStr Tryd.underlying9) rfl rfl ?_
    refine r_pure a_neq rfl rfl ?_
    refine arun_nil ?_
    refine thn_n ?_
    refine awp_cond _ rfl (fun h => ?_) (fun h => ?_)
    · have h2 : nc.size ≠ 16 := by simp at h; omega
      rw [if_pos h2, if_pos (by decide)] at hE
      subst hE
      refine awp_seq ?_
      refine tx ?_
      refine aP rfl rfl ?_
      refine arun_nil ?_
      refine awp_ret (thn_r (thn_r ?_))
      refine fT (fun o => o) (.tmp _ _ _ _ rfl .nil) ?_ ?_
      · exact rfl
      · exact trivial
    have h2 : nc.size = 16 := by simp at h; omega
    clear h
    rw [if_neg (show ¬ nc.size ≠ 16 by simp [h2])] at hE
    by_cases h3 : hexE nc ≠ 0
    · rw [if_pos h3, if_pos h3] at hE
      obtain ⟨g1, g2⟩ := hexRes_bad rfl h3
      rw [g1, g2] at hN
      subst hE
      generalize hexE nc = he at *
      refine awp_skip (awp_seq (awp_seq ?_))
      refine tx ?_
      refine fA fi48_2 rfl rfl ?_
      refine l1 Tryd.underlying9 rfl rfl rfl ⟨rfl, trivial⟩ ?_
      refine r_callV (fun n => 53 + 1000 * n) (hN) rfl rfl Tryd.func57 rfl rfl (by first | rfl | simp [AV.noSl, AV.noSlL, AObj.noSl, PV.isV, bs_noSl]) (by first | rfl | simp [AV.noSl, AV.noSlL, AObj.noSl, PV.isV, bs_noSl]) rfl rfl rfl (by first | exact trivial | exact ⟨rfl, trivial⟩ | exact ⟨rfl, rfl, trivial⟩) rfl rfl rfl ?_
      refine r_pure (a_move (r := .tup _)) rfl rfl ?_
      refine r_pure (a_extract rfl) rfl rfl ?_
      refine r_pure (a_extract rfl) rfl rfl ?_
      refine aP rfl rfl ?_
      refine aP rfl rfl ?_
      refine arun_nil ?_
      refine awp_seq ?_
      refine tx ?_
      refine mP rfl rfl ?_
      refine r_pure a_neq rfl rfl ?_
      refine arun_nil ?_
      refine thn_n ?_
      refine awp_cond _ rfl (fun h => ?_) (fun h => ?_)
      · refine awp_seq ?_
        refine tx ?_
        refine mP rfl rfl ?_
        refine aP rfl rfl ?_
        refine arun_nil ?_
        refine awp_ret (thn_r (thn_r ?_))
        refine fT (fun o => o) (.tmp _ _ _ _ rfl .nil) ?_ ?_
        · exact rfl
        · exact trivial
      · exact absurd (by simpa using h) h3
    rw [if_neg h3] at hE
    replace h3 : hexE nc = 0 := Decidable.not_not.1 h3
    obtain ⟨g1, g2⟩ := hexRes_good h3
    rw [g1, g2] at hN
    clear g1 g2
    refine awp_skip (awp_seq (awp_seq ?_))
    refine tx ?_
    refine fA fi48_2 rfl rfl ?_
    refine l1 Tryd.underlying9 rfl rfl rfl ⟨rfl, trivial⟩ ?_
    refine r_callV (fun n => 53 + 1000 * n) (hN) rfl rfl Tryd.func57 rfl rfl (by first | rfl | simp [AV.noSl, AV.noSlL, AObj.noSl, PV.isV, bs_noSl]) (by first | rfl | simp [AV.noSl, AV.noSlL, AObj.noSl, PV.isV, bs_noSl]) rfl rfl rfl (by first | exact trivial | exact ⟨rfl, trivial⟩ | exact ⟨rfl, rfl, trivial⟩) rfl rfl rfl ?_
    refine r_pure (a_move (r := .tup _)) rfl rfl ?_
    refine r_pure (a_extract rfl) rfl rfl ?_
    refine r_pure (a_extract rfl) rfl rfl ?_
    refine r_pure (a_assign (r := .row _)) rfl rfl ?_
    refine aP rfl rfl ?_
    refine arun_nil ?_
    refine awp_seq ?_
    refine tx ?_
    refine mP rfl rfl ?_
    refine r_pure a_neqT rfl rfl ?_
    refine arun_nil ?_
    refine thn_n ?_
    refine awp_cF rfl ?_
    refine awp_skip (awp_seq ?_)
    refine tx ?_
    refine fA fi48_1 rfl rfl ?_
    refine l1 Tryd.underlying3 rfl rfl rfl ⟨rfl, trivial⟩ ?_
    refine r_pure a_leq rfl rfl ?_
    refine mP rfl rfl ?_
    refine mb2 _ rfl rfl (fun hb => (b_fieldAddr fi48_1 rfl)) (fun _ => trivial) ?_
    refine mb2 _ rfl rfl (fun hb => (a_load1 Tryd.underlying3 rfl (by first | rfl | assumption))) (fun _ => ⟨rfl, trivial⟩) ?_
    refine mb2 _ rfl rfl (fun hb => a_geq) (fun _ => trivial) ?_
    refine r_pure (a_or (by first | exact id | (simp; done) | grind)) rfl rfl ?_
    refine mP rfl rfl ?_
    refine mb2 _ rfl rfl (fun hb => (b_fieldAddr fi48_3 rfl)) (fun _ => trivial) ?_
    refine mb2 _ rfl rfl (fun hb => (a_load1 Tryd.underlying3 rfl (by first | rfl | assumption))) (fun _ => ⟨rfl, trivial⟩) ?_
    refine mb2 _ rfl rfl (fun hb => a_lss) (fun _ => trivial) ?_
    refine r_pure (a_or (by first | exact id | (simp; done) | grind)) rfl rfl ?_
    refine mP rfl rfl ?_
    refine mb2 _ rfl rfl (fun hb => (b_fieldAddr fi48_4 rfl)) (fun _ => trivial) ?_
    refine mb2 _ rfl rfl (fun hb => (a_load1 Tryd.underlying3 rfl (by first | rfl | assumption))) (fun _ => ⟨rfl, trivial⟩) ?_
    refine mb2 _ rfl rfl (fun hb => (b_fieldAddr fi48_3 rfl)) (fun _ => trivial) ?_
    refine mb2 _ rfl rfl (fun hb => (a_load1 Tryd.underlying3 rfl (by first | rfl | assumption))) (fun _ => ⟨rfl, trivial⟩) ?_
    refine mb2 _ rfl rfl (fun hb => a_lss) (fun _ => trivial) ?_
    refine r_pure (a_or (by first | exact id | (simp; done) | grind)) rfl rfl ?_
    refine mP rfl rfl ?_
    refine mb2 _ rfl rfl (fun hb => (b_fieldAddr fi48_4 rfl)) (fun _ => trivial) ?_
    refine mb2 _ rfl rfl (fun hb => (a_load1 Tryd.underlying3 rfl (by first | rfl | assumption))) (fun _ => ⟨rfl, trivial⟩) ?_
    refine mb2 _ rfl rfl (fun hb => a_gtr) (fun _ => trivial) ?_
    refine r_pure (a_or (by first | exact id | (simp; done) | grind)) rfl rfl ?_
    refine arun_nil ?_
    refine thn_n ?_
    refine awp_cond _ rfl (fun h => ?_) (fun h => ?_)
    · have h5 : mine < 1 ∨ 4294967295 < mine ∨ hb < 0 ∨ hs < hb ∨ 1099511627776 < hs := by simp at h; omega
      rw [if_pos h5, if_pos (by decide)] at hE
      subst hE
      refine awp_seq ?_
      refine tx ?_
      refine aP rfl rfl ?_
      refine arun_nil ?_
      refine awp_ret (thn_r ?_)
      refine fT (fun o => o) (.tmp _ _ _ _ rfl .nil) ?_ ?_
      · exact rfl
      · exact trivial
    have h5 : ¬ (mine < 1 ∨ 4294967295 < mine ∨ hb < 0 ∨ hs < hb ∨ 1099511627776 < hs) := by simp at h; omega
    clear h
    rw [if_neg h5, if_neg (by simp)] at hE
    refine awp_skip (awp_seq (awp_seq ?_))
    refine tx ?_
    refine fA fi51_1 rfl rfl ?_
    refine l1 Tryd.underlying9 rfl rfl rfl ⟨rfl, trivial⟩ ?_
    refine r_callV (fun n => 105 + 1000 * n) (hEn) rfl rfl Tryd.func14 rfl rfl (by first | rfl | simp [AV.noSl, AV.noSlL, AObj.noSl, PV.isV, bs_noSl]) (by first | rfl | simp [AV.noSl, AV.noSlL, AObj.noSl, PV.isV, bs_noSl]) rfl rfl rfl (by first | exact trivial | exact ⟨rfl, trivial⟩ | exact ⟨rfl, rfl, trivial⟩) rfl rfl rfl ?_
    refine r_pure (a_move (r := .tup _)) rfl rfl ?_
    refine r_pure (a_extract rfl) rfl rfl ?_
    refine r_pure (a_extract rfl) rfl rfl ?_
    refine r_pure (a_extract rfl) rfl rfl ?_
    refine aP rfl rfl ?_
    refine aP rfl rfl ?_
    refine aP rfl rfl ?_
    refine arun_nil ?_
    refine awp_seq ?_
    refine tx ?_
    refine fA fi51_1 rfl rfl ?_
    refine l1 Tryd.underlying9 rfl rfl rfl ⟨rfl, trivial⟩ ?_
    refine r_pure a_sneq rfl rfl ?_
    refine mP rfl rfl ?_
    refine mb2 _ rfl rfl (fun hb => (a_move (r := .p _))) (fun _ => trivial) ?_
    refine mb2 _ rfl rfl (fun hb => a_neq) (fun _ => trivial) ?_
    refine r_pure (a_and (by first | exact id | (simp; done) | grind)) rfl rfl ?_
    refine arun_nil ?_
    refine thn_n ?_
    refine awp_cond _ rfl (fun h => ?_) (fun h => ?_)
    · have h4 : ep ≠ ⟨#[]⟩ ∧ e1 ≠ 0 := by simpa using h
      rw [if_pos h4] at hE
      subst hE
      refine awp_seq ?_
      refine tx ?_
      refine mP rfl rfl ?_
      refine aP rfl rfl ?_
      refine arun_nil ?_
      refine awp_ret (thn_r ?_)
      refine fT (fun o => o) (.tmp _ _ _ _ rfl .nil) ?_ ?_
      · exact rfl
      · exact trivial
    have h4 : ¬ (ep ≠ ⟨#[]⟩ ∧ e1 ≠ 0) := by
      intro ⟨h5, h6⟩
      simp [h5, h6] at h
    clear h
    rw [if_neg h4] at hE
    refine awp_skip (awp_seq (awp_seq ?_))
    refine tx ?_
    refine fA fi51_4 rfl rfl ?_
    refine l1 Tryd.underlying49 rfl rfl rfl ⟨rfl, trivial⟩ ?_
    refine r_pure (a_lenS Tryd.underlying49) rfl rfl ?_
    refine r_pure a_gtr rfl rfl ?_
    refine arun_nil ?_
    refine thn_n ?_
    refine awp_cond _ rfl (fun h => ?_) (fun h => ?_)
    · have h5 : 3 < q.length := by simp at h; omega
      rw [if_pos h5] at hE
      subst hE
      refine awp_seq ?_
      refine tx ?_
      refine aP rfl rfl ?_
      refine arun_nil ?_
      refine awp_ret (thn_r ?_)
      refine fT (fun o => o) (.tmp _ _ _ _ rfl .nil) ?_ ?_
      · exact rfl
      · exact trivial
    have h5 : ¬ 3 < q.length := by simp at h; omega
    clear h
    rw [if_neg h5] at hE
    unfold pqE at hE
    obtain ⟨f, hF⟩ : ∃ f, (fun i => if 200 < (pqG q i).xs.length then 1 else 0 : Nat → Int) = f := ⟨_, rfl⟩
    rw [hF] at hE
    refine awp_skip (awp_seq (awp_seq ?_))
    refine tx ?_
    refine fA fi51_4 rfl rfl ?_
    refine l1 Tryd.underlying49 rfl rfl rfl ⟨rfl, trivial⟩ ?_
    refine r_pure (a_lenS Tryd.underlying49) rfl rfl ?_
    refine mP rfl rfl ?_
    refine arun_nil ?_
    refine awp_block ?_
    refine awp_loopR (fun m st => ∃ i : Nat, m + i = q.length ∧ (∀ j, j < i → f j = 0) ∧ st = St.of [(122, .p (.sl q.length 3 (q.flatMap PQ.pv))), (123, .p (.v (.int .i64 q.length))), (124, .p (.v (.int .i64 i)))] []) q.length ?_ ?_
    · refine ⟨_, re_of id _ _ ?_ ?_ rfl, 0, by omega, by omega, rfl⟩
      · (repeat (first | exact trivial | (refine ⟨⟨(by first | rfl | (simp; done) | (simp; omega)), rfl⟩, ?_⟩)))
      · trivial
    rintro m st ⟨i, hi, hf, rfl⟩
    refine awp_seq ?_
    refine tx ?_
    refine r_pure a_lss rfl rfl ?_
    refine arun_nil ?_
    refine awp_seq ?_
    refine awp_cond _ rfl (fun h => ?_) (fun h => ?_)
    · have hlt : i < q.length := by simp at h; omega
      clear h
      obtain ⟨p, hp⟩ : ∃ p, q[i]? = some p := ⟨q[i], List.getElem?_eq_getElem hlt⟩
      have hch := chunk_at (f := PQ.pv) (k := 3) (fun _ => rfl) hp
      have hle := chunk_le (f := PQ.pv) (k := 3) (fun _ => rfl) hlt
      have hpx := hqx p (List.mem_of_getElem? hp)
      have hhit := @fnz_hit f i q.length hf hlt
      have hfi : f i = if 200 < p.xs.length then 1 else 0 := by rw [← hF]; show (if 200 < (pqG q i).xs.length then (1 : Int) else 0) = _; rw [show pqG q i = p by unfold pqG; rw [List.getD_eq_getElem?_getD, hp]; rfl]
      obtain ⟨pa, pb, xs⟩ := p
      dsimp only at hpx hfi
      change _ = [PV.v (.int .u32 pa), .v (.int .u32 pb), .sl xs.length 1 (bs xs)] at hch
      have hC := pchk_s pa pb xs.length (bs xs) (by omega)
      generalize hL : q.flatMap PQ.pv = L at *
      generalize bs xs = X at *
      generalize xs.length = N at *
      refine awp_skip (awp_seq (awp_block (awp_seq ?_)))
      refine tx ?_
      refine r_pure (a_indexAddrS Tryd.underlying49 sz99 (by omega) (by omega) rfl) rfl rfl ?_
      refine r_pure (a_loadNp Tryd.underlying99 rfl sz99 (by rw [List.length_drop]; omega) (hch)) rfl rfl ?_
      refine r_run (a_alloc 14 zr99 rfl) rfl rfl ⟨rfl, trivial⟩ ?_
      refine r_run (a_storeAll (Y := .agg [.p (.v (.int .u32 pa)), .p (.v (.int .u32 pb)), .p (.sl N 1 X)]) sz99 rfl rfl (Nat.eq_of_beq_eq_true rfl)) rfl rfl ⟨rfl, trivial⟩ ?_
      refine arun_nil ?_
      refine awp_seq ?_
      refine tx ?_
      refine fA fi99_2 rfl rfl ?_
      refine l1 Tryd.underlying95 rfl rfl rfl ⟨rfl, trivial⟩ ?_
      refine r_pure (a_lenS Tryd.underlying95) rfl rfl ?_
      refine r_pure a_gtr rfl rfl ?_
      refine arun_nil ?_
      refine thn_n ?_
      refine awp_cond _ rfl (fun h => ?_) (fun h => ?_)
      · have h6 : 200 < N := by simp at h; omega
        rw [if_pos h6] at hfi
        rw [hhit (by rw [hfi]; decide), hfi] at hE
        subst hE
        refine awp_seq ?_
        refine tx ?_
        refine aP rfl rfl ?_
        refine arun_nil ?_
        refine awp_ret (inb_r (thn_r (thn_r (inb_r (thn_r ?_)))))
        refine fT (fun o => o) (.tmp _ _ _ _ rfl .nil) ?_ ?_
        · exact rfl
        · exact trivial
      · have h6 : ¬ 200 < N := by simp at h; omega
        clear h
        refine awp_skip (inb_n (thn_n ?_))
        refine tx ?_
        refine r_pure (a_add (by first | exact IntWalk.i64_in _ (by omega) | rfl)) rfl rfl ?_
        refine mP rfl rfl ?_
        refine arun_nil ?_
        refine thn_n ?_
        refine ⟨m - 1, by omega, _, re_of id _ _ ?_ ?_ rfl, i + 1, by omega, fun j hj => ?_, rfl⟩
        · (repeat (first | exact trivial | (refine ⟨⟨(by first | rfl | (simp; done) | (simp; omega)), rfl⟩, ?_⟩)))
        · trivial
        · by_cases ej : j = i
          · rw [ej, hfi, if_neg h6]
          · exact hf j (by omega)
    have hge : i = q.length := by simp at h; omega
    clear h
    subst hge
    rw [fnz_ok hf] at hE
    subst hE
    refine awp_exit (awp_seq ?_)
    refine tx ?_
    refine aP rfl rfl ?_
    refine arun_nil ?_
    refine awp_ret ?_
    refine fT (fun o => o) (.tmp _ _ _ _ rfl .nil) ?_ ?_
    · exact rfl
    · exact trivial
end Go.Proofs.YtcjnecmgificmaaDoor
