/- The law ShowTells, over data. -/
import Derived.Test.YtcjnecmgificmaaGreatDoorSp4
import Derived.Test.YtcjnecmgificmaaGreatDoorBp2
--%T
namespace Go.Proofs.YtcjnecmgificmaaGreatDoor
open Go.RowKit Go.Sort
set_option linter.unusedVariables false
set_option linter.unusedSimpArgs false
set_option maxRecDepth 100000

theorem allL_len {c : CF} (h : cfE c = 0) : (allL c).length ≤ 1048576 := by
  obtain ⟨_, h6, hpe⟩ := cfE_ok h
  have := olP_len hpe c.ps.length (Nat.le_refl _)
  unfold olP at this
  rw [List.take_length] at this
  unfold allL
  rw [List.length_append, List.length_append]
  have h1 : (if c.key ≠ ⟨#[]⟩ then [(⟨1, c.key, 0, 0, 0⟩ : SE)] else []).length ≤ 1 := by split <;> simp
  have h2 : (if 0 < c.port then [(⟨2, ⟨#[]⟩, c.port, 0, 0⟩ : SE)] else []).length ≤ 1 := by split <;> simp
  omega
theorem law_ShowTells (x0 : List PV) (ty0 : Ty Tryz.prog 10 24 x0) (hb0 : PV.bdL 1048576 x0) (x1 : List PV) (ty1 : Ty Tryz.prog 10 27 x1) (hb1 : PV.bdL 1048576 x1) :
    Fn Tryz.prog 3 [argAV true x0, argAV true x1] (.p (.v (.bool true))) [] := by
  obtain ⟨p, ok, rfl⟩ := PE.of_ty ty0 hb0
  have hpn : p.nets.length ≤ 1048576 := by
    simp only [PE.pv, PV.bdL, PV.bd] at hb0
    exact hb0.2.2.2.2.1.1
  obtain ⟨c, okc, rfl⟩ := CF.of_ty ty1 hb1
  show Fn Tryz.prog _ [.agg p.cells, .agg c.cells] _ _
  have hS0 := sameSets0_s
  by_cases ha : peE p = 0
  · have p1 := showPeer_s p ok hpn ha
    have q1 := refShow_s p ok hpn ha
    have hS1 := sameSets_s (ofPeerL p) (by have := ofPeerL_len ha; omega)
    generalize (ofPeerL p).flatMap SE.pv = L1 at *
    generalize (ofPeerL p).length = n1 at *
    by_cases hb : cfE c = 0
    · have p2 := all_s c okc hb
      have q2 := refAll_s c okc hb
      have hS2 := sameSets_s (allL c) (allL_len hb)
      generalize (allL c).flatMap SE.pv = L2 at *
      generalize (allL c).length = n2 at *
      clear ok okc ha hb hpn
      obtain ⟨key, sh, ep, al, nets⟩ := p
      obtain ⟨ckey, port, ps⟩ := c
      change Fn Tryz.prog _ [.agg [.p (.v (.string key)), .p (.v (.string sh)), .p (.v (.string ep)), .p (.v (.int .i64 al)), .p (.sl nets.length 2 (nets.flatMap ntC))]] _ _ at p1
      change Fn Tryz.prog _ [.agg [.p (.v (.string key)), .p (.v (.string sh)), .p (.v (.string ep)), .p (.v (.int .i64 al)), .p (.sl nets.length 2 (nets.flatMap ntC))]] _ _ at q1
      change Fn Tryz.prog _ [.agg [.p (.v (.string ckey)), .p (.v (.int .i64 port)), .p (.sl ps.length 5 (ps.flatMap PE.pv))]] _ _ at p2
      change Fn Tryz.prog _ [.agg [.p (.v (.string ckey)), .p (.v (.int .i64 port)), .p (.sl ps.length 5 (ps.flatMap PE.pv))]] _ _ at q2
      show Fn Tryz.prog _ [.agg [.p (.v (.string key)), .p (.v (.string sh)), .p (.v (.string ep)), .p (.v (.int .i64 al)), .p (.sl nets.length 2 (nets.flatMap ntC))], .agg [.p (.v (.string ckey)), .p (.v (.int .i64 port)), .p (.sl ps.length 5 (ps.flatMap PE.pv))]] _ _
      generalize nets.flatMap ntC = NL at *
      generalize nets.length = nn at *
      generalize ps.flatMap PE.pv = PL at *
      generalize ps.length = pn at *
      refine fn_intro Tryz.func3 rfl (Nat.le_of_ble_eq_true rfl) fun w0 A => ?_
      refine awp_seq ?_
      refine tx ?_
      refine r_run (a_box (X := .agg _) 2 rfl) rfl rfl ⟨rfl, trivial⟩ ?_
      refine r_run (a_box (X := .agg _) 3 rfl) rfl rfl ⟨rfl, trivial⟩ ?_
      refine aP rfl rfl ?_
      refine arun_nil ?_
      refine awp_seq ?_
      refine tx ?_
      refine lN Tryz.underlying24 rfl sz24 rfl rfl ⟨rfl, trivial⟩ ?_
      refine r_callS (fun n => 15 + 1000 * n) (p1) rfl rfl Tryz.func7 rfl rfl (by first | rfl | simp [AV.okInL, AV.okIn, okInL_map]) rfl rfl rfl (by first | exact trivial | exact ⟨rfl, trivial⟩ | exact ⟨rfl, rfl, trivial⟩) rfl rfl rfl ?_
      refine r_pure (a_move (r := .tup _)) rfl rfl ?_
      refine r_pure (a_extract rfl) rfl rfl ?_
      refine r_pure (a_extract rfl) rfl rfl ?_
      refine r_pure (a_assign (r := .row _)) rfl rfl ?_
      refine aP rfl rfl ?_
      refine arun_nil ?_
      refine awp_seq ?_
      refine tx ?_
      refine lN Tryz.underlying27 rfl sz27 rfl rfl ⟨rfl, trivial⟩ ?_
      refine r_callS (fun n => 20 + 1000 * n) (p2) rfl rfl Tryz.func8 rfl rfl (by first | rfl | simp [AV.okInL, AV.okIn, okInL_map]) rfl rfl rfl (by first | exact trivial | exact ⟨rfl, trivial⟩ | exact ⟨rfl, rfl, trivial⟩) rfl rfl rfl ?_
      refine r_pure (a_move (r := .tup _)) rfl rfl ?_
      refine r_pure (a_extract rfl) rfl rfl ?_
      refine r_pure (a_extract rfl) rfl rfl ?_
      refine r_pure (a_assign (r := .row _)) rfl rfl ?_
      refine aP rfl rfl ?_
      refine arun_nil ?_
      refine awp_seq ?_
      refine tx ?_
      refine lN Tryz.underlying24 rfl sz24 rfl rfl ⟨rfl, trivial⟩ ?_
      refine r_callS (fun n => 25 + 1000 * n) (q1) rfl rfl Tryz.func9 rfl rfl (by first | rfl | simp [AV.okInL, AV.okIn, okInL_map]) rfl rfl rfl (by first | exact trivial | exact ⟨rfl, trivial⟩ | exact ⟨rfl, rfl, trivial⟩) rfl rfl rfl ?_
      refine r_pure (a_move (r := .tup _)) rfl rfl ?_
      refine r_pure (a_extract rfl) rfl rfl ?_
      refine r_pure (a_extract rfl) rfl rfl ?_
      refine r_pure (a_assign (r := .row _)) rfl rfl ?_
      refine aP rfl rfl ?_
      refine arun_nil ?_
      refine awp_seq ?_
      refine tx ?_
      refine lN Tryz.underlying27 rfl sz27 rfl rfl ⟨rfl, trivial⟩ ?_
      refine r_callS (fun n => 30 + 1000 * n) (q2) rfl rfl Tryz.func10 rfl rfl (by first | rfl | simp [AV.okInL, AV.okIn, okInL_map]) rfl rfl rfl (by first | exact trivial | exact ⟨rfl, trivial⟩ | exact ⟨rfl, rfl, trivial⟩) rfl rfl rfl ?_
      refine r_pure (a_move (r := .tup _)) rfl rfl ?_
      refine r_pure (a_extract rfl) rfl rfl ?_
      refine r_pure (a_extract rfl) rfl rfl ?_
      refine r_pure (a_assign (r := .row _)) rfl rfl ?_
      refine aP rfl rfl ?_
      refine arun_nil ?_
      refine awp_seq ?_
      refine tx ?_
      refine r_pure (a_move (r := .row _)) rfl rfl ?_
      refine r_pure (a_move (r := .row _)) rfl rfl ?_
      refine r_callV (fun n => 35 + 1000 * n) (hS1) rfl rfl Tryz.func11 rfl rfl (by first | rfl | simp [AV.noSl, AV.noSlL, AObj.noSl, PV.isV, bs_noSl]) (by first | rfl | simp [AV.noSl, AV.noSlL, AObj.noSl, PV.isV, bs_noSl]) rfl rfl rfl (by first | exact trivial | exact ⟨rfl, trivial⟩ | exact ⟨rfl, rfl, trivial⟩) rfl rfl rfl ?_
      refine mP rfl rfl ?_
      refine mP rfl rfl ?_
      refine mP rfl rfl ?_
      refine r_pure a_eqlT rfl rfl ?_
      refine r_pure a_pickT rfl rfl ?_
      refine mP rfl rfl ?_
      refine r_pure (a_move (r := .row _)) rfl rfl ?_
      refine r_pure (a_move (r := .row _)) rfl rfl ?_
      refine r_callV (fun n => 44 + 1000 * n) (hS2) rfl rfl Tryz.func11 rfl rfl (by first | rfl | simp [AV.noSl, AV.noSlL, AObj.noSl, PV.isV, bs_noSl]) (by first | rfl | simp [AV.noSl, AV.noSlL, AObj.noSl, PV.isV, bs_noSl]) rfl rfl rfl (by first | exact trivial | exact ⟨rfl, trivial⟩ | exact ⟨rfl, rfl, trivial⟩) rfl rfl rfl ?_
      refine r_pure a_pickT rfl rfl ?_
      refine mP rfl rfl ?_
      refine mP rfl rfl ?_
      refine mP rfl rfl ?_
      refine r_pure a_eqlT rfl rfl ?_
      refine r_pure a_pickT rfl rfl ?_
      refine aP rfl rfl ?_
      refine arun_nil ?_
      refine awp_ret ?_
      refine fT (fun o => o) (.tmp _ _ _ _ rfl .nil) ?_ ?_
      · exact rfl
      · exact trivial
    · have p2 := all_bad c okc hb
      have q2 := refAll_bad c okc hb
      generalize cfE c = e2 at *
      clear ok okc ha hb hpn
      obtain ⟨key, sh, ep, al, nets⟩ := p
      obtain ⟨ckey, port, ps⟩ := c
      change Fn Tryz.prog _ [.agg [.p (.v (.string key)), .p (.v (.string sh)), .p (.v (.string ep)), .p (.v (.int .i64 al)), .p (.sl nets.length 2 (nets.flatMap ntC))]] _ _ at p1
      change Fn Tryz.prog _ [.agg [.p (.v (.string key)), .p (.v (.string sh)), .p (.v (.string ep)), .p (.v (.int .i64 al)), .p (.sl nets.length 2 (nets.flatMap ntC))]] _ _ at q1
      change Fn Tryz.prog _ [.agg [.p (.v (.string ckey)), .p (.v (.int .i64 port)), .p (.sl ps.length 5 (ps.flatMap PE.pv))]] _ _ at p2
      change Fn Tryz.prog _ [.agg [.p (.v (.string ckey)), .p (.v (.int .i64 port)), .p (.sl ps.length 5 (ps.flatMap PE.pv))]] _ _ at q2
      show Fn Tryz.prog _ [.agg [.p (.v (.string key)), .p (.v (.string sh)), .p (.v (.string ep)), .p (.v (.int .i64 al)), .p (.sl nets.length 2 (nets.flatMap ntC))], .agg [.p (.v (.string ckey)), .p (.v (.int .i64 port)), .p (.sl ps.length 5 (ps.flatMap PE.pv))]] _ _
      generalize nets.flatMap ntC = NL at *
      generalize nets.length = nn at *
      generalize ps.flatMap PE.pv = PL at *
      generalize ps.length = pn at *
      refine fn_intro Tryz.func3 rfl (Nat.le_of_ble_eq_true rfl) fun w0 A => ?_
      refine awp_seq ?_
      refine tx ?_
      refine r_run (a_box (X := .agg _) 2 rfl) rfl rfl ⟨rfl, trivial⟩ ?_
      refine r_run (a_box (X := .agg _) 3 rfl) rfl rfl ⟨rfl, trivial⟩ ?_
      refine aP rfl rfl ?_
      refine arun_nil ?_
      refine awp_seq ?_
      refine tx ?_
      refine lN Tryz.underlying24 rfl sz24 rfl rfl ⟨rfl, trivial⟩ ?_
      refine r_callS (fun n => 15 + 1000 * n) (p1) rfl rfl Tryz.func7 rfl rfl (by first | rfl | simp [AV.okInL, AV.okIn, okInL_map]) rfl rfl rfl (by first | exact trivial | exact ⟨rfl, trivial⟩ | exact ⟨rfl, rfl, trivial⟩) rfl rfl rfl ?_
      refine r_pure (a_move (r := .tup _)) rfl rfl ?_
      refine r_pure (a_extract rfl) rfl rfl ?_
      refine r_pure (a_extract rfl) rfl rfl ?_
      refine r_pure (a_assign (r := .row _)) rfl rfl ?_
      refine aP rfl rfl ?_
      refine arun_nil ?_
      refine awp_seq ?_
      refine tx ?_
      refine lN Tryz.underlying27 rfl sz27 rfl rfl ⟨rfl, trivial⟩ ?_
      refine r_callS (fun n => 20 + 1000 * n) (p2) rfl rfl Tryz.func8 rfl rfl (by first | rfl | simp [AV.okInL, AV.okIn, okInL_map]) rfl rfl rfl (by first | exact trivial | exact ⟨rfl, trivial⟩ | exact ⟨rfl, rfl, trivial⟩) rfl rfl rfl ?_
      refine r_pure (a_move (r := .tup _)) rfl rfl ?_
      refine r_pure (a_extract rfl) rfl rfl ?_
      refine r_pure (a_extract rfl) rfl rfl ?_
      refine aP rfl rfl ?_
      refine aP rfl rfl ?_
      refine arun_nil ?_
      refine awp_seq ?_
      refine tx ?_
      refine lN Tryz.underlying24 rfl sz24 rfl rfl ⟨rfl, trivial⟩ ?_
      refine r_callS (fun n => 25 + 1000 * n) (q1) rfl rfl Tryz.func9 rfl rfl (by first | rfl | simp [AV.okInL, AV.okIn, okInL_map]) rfl rfl rfl (by first | exact trivial | exact ⟨rfl, trivial⟩ | exact ⟨rfl, rfl, trivial⟩) rfl rfl rfl ?_
      refine r_pure (a_move (r := .tup _)) rfl rfl ?_
      refine r_pure (a_extract rfl) rfl rfl ?_
      refine r_pure (a_extract rfl) rfl rfl ?_
      refine r_pure (a_assign (r := .row _)) rfl rfl ?_
      refine aP rfl rfl ?_
      refine arun_nil ?_
      refine awp_seq ?_
      refine tx ?_
      refine lN Tryz.underlying27 rfl sz27 rfl rfl ⟨rfl, trivial⟩ ?_
      refine r_callS (fun n => 30 + 1000 * n) (q2) rfl rfl Tryz.func10 rfl rfl (by first | rfl | simp [AV.okInL, AV.okIn, okInL_map]) rfl rfl rfl (by first | exact trivial | exact ⟨rfl, trivial⟩ | exact ⟨rfl, rfl, trivial⟩) rfl rfl rfl ?_
      refine r_pure (a_move (r := .tup _)) rfl rfl ?_
      refine r_pure (a_extract rfl) rfl rfl ?_
      refine r_pure (a_extract rfl) rfl rfl ?_
      refine aP rfl rfl ?_
      refine aP rfl rfl ?_
      refine arun_nil ?_
      refine awp_seq ?_
      refine tx ?_
      refine r_pure (a_move (r := .row _)) rfl rfl ?_
      refine r_pure (a_move (r := .row _)) rfl rfl ?_
      refine r_callV (fun n => 35 + 1000 * n) (hS1) rfl rfl Tryz.func11 rfl rfl (by first | rfl | simp [AV.noSl, AV.noSlL, AObj.noSl, PV.isV, bs_noSl]) (by first | rfl | simp [AV.noSl, AV.noSlL, AObj.noSl, PV.isV, bs_noSl]) rfl rfl rfl (by first | exact trivial | exact ⟨rfl, trivial⟩ | exact ⟨rfl, rfl, trivial⟩) rfl rfl rfl ?_
      refine mP rfl rfl ?_
      refine mP rfl rfl ?_
      refine mP rfl rfl ?_
      refine r_pure a_eqlT rfl rfl ?_
      refine r_pure a_pickT rfl rfl ?_
      refine mP rfl rfl ?_
      refine mP rfl rfl ?_
      refine mP rfl rfl ?_
      refine r_callV (fun n => 44 + 1000 * n) (hS0) rfl rfl Tryz.func11 rfl rfl (by first | rfl | simp [AV.noSl, AV.noSlL, AObj.noSl, PV.isV, bs_noSl]) (by first | rfl | simp [AV.noSl, AV.noSlL, AObj.noSl, PV.isV, bs_noSl]) rfl rfl rfl (by first | exact trivial | exact ⟨rfl, trivial⟩ | exact ⟨rfl, rfl, trivial⟩) rfl rfl rfl ?_
      refine r_pure a_pickT rfl rfl ?_
      refine mP rfl rfl ?_
      refine mP rfl rfl ?_
      refine mP rfl rfl ?_
      refine r_pure a_eqlT rfl rfl ?_
      refine r_pure a_pickT rfl rfl ?_
      refine aP rfl rfl ?_
      refine arun_nil ?_
      refine awp_ret ?_
      refine fT (fun o => o) (.tmp _ _ _ _ rfl .nil) ?_ ?_
      · exact rfl
      · exact trivial
  · have p1 := showPeer_bad p ok ha
    have q1 := refShow_bad p ok ha
    generalize peE p = e1 at *
    by_cases hb : cfE c = 0
    · have p2 := all_s c okc hb
      have q2 := refAll_s c okc hb
      have hS2 := sameSets_s (allL c) (allL_len hb)
      generalize (allL c).flatMap SE.pv = L2 at *
      generalize (allL c).length = n2 at *
      clear ok okc ha hb hpn
      obtain ⟨key, sh, ep, al, nets⟩ := p
      obtain ⟨ckey, port, ps⟩ := c
      change Fn Tryz.prog _ [.agg [.p (.v (.string key)), .p (.v (.string sh)), .p (.v (.string ep)), .p (.v (.int .i64 al)), .p (.sl nets.length 2 (nets.flatMap ntC))]] _ _ at p1
      change Fn Tryz.prog _ [.agg [.p (.v (.string key)), .p (.v (.string sh)), .p (.v (.string ep)), .p (.v (.int .i64 al)), .p (.sl nets.length 2 (nets.flatMap ntC))]] _ _ at q1
      change Fn Tryz.prog _ [.agg [.p (.v (.string ckey)), .p (.v (.int .i64 port)), .p (.sl ps.length 5 (ps.flatMap PE.pv))]] _ _ at p2
      change Fn Tryz.prog _ [.agg [.p (.v (.string ckey)), .p (.v (.int .i64 port)), .p (.sl ps.length 5 (ps.flatMap PE.pv))]] _ _ at q2
      show Fn Tryz.prog _ [.agg [.p (.v (.string key)), .p (.v (.string sh)), .p (.v (.string ep)), .p (.v (.int .i64 al)), .p (.sl nets.length 2 (nets.flatMap ntC))], .agg [.p (.v (.string ckey)), .p (.v (.int .i64 port)), .p (.sl ps.length 5 (ps.flatMap PE.pv))]] _ _
      generalize nets.flatMap ntC = NL at *
      generalize nets.length = nn at *
      generalize ps.flatMap PE.pv = PL at *
      generalize ps.length = pn at *
      refine fn_intro Tryz.func3 rfl (Nat.le_of_ble_eq_true rfl) fun w0 A => ?_
      refine awp_seq ?_
      refine tx ?_
      refine r_run (a_box (X := .agg _) 2 rfl) rfl rfl ⟨rfl, trivial⟩ ?_
      refine r_run (a_box (X := .agg _) 3 rfl) rfl rfl ⟨rfl, trivial⟩ ?_
      refine aP rfl rfl ?_
      refine arun_nil ?_
      refine awp_seq ?_
      refine tx ?_
      refine lN Tryz.underlying24 rfl sz24 rfl rfl ⟨rfl, trivial⟩ ?_
      refine r_callS (fun n => 15 + 1000 * n) (p1) rfl rfl Tryz.func7 rfl rfl (by first | rfl | simp [AV.okInL, AV.okIn, okInL_map]) rfl rfl rfl (by first | exact trivial | exact ⟨rfl, trivial⟩ | exact ⟨rfl, rfl, trivial⟩) rfl rfl rfl ?_
      refine r_pure (a_move (r := .tup _)) rfl rfl ?_
      refine r_pure (a_extract rfl) rfl rfl ?_
      refine r_pure (a_extract rfl) rfl rfl ?_
      refine aP rfl rfl ?_
      refine aP rfl rfl ?_
      refine arun_nil ?_
      refine awp_seq ?_
      refine tx ?_
      refine lN Tryz.underlying27 rfl sz27 rfl rfl ⟨rfl, trivial⟩ ?_
      refine r_callS (fun n => 20 + 1000 * n) (p2) rfl rfl Tryz.func8 rfl rfl (by first | rfl | simp [AV.okInL, AV.okIn, okInL_map]) rfl rfl rfl (by first | exact trivial | exact ⟨rfl, trivial⟩ | exact ⟨rfl, rfl, trivial⟩) rfl rfl rfl ?_
      refine r_pure (a_move (r := .tup _)) rfl rfl ?_
      refine r_pure (a_extract rfl) rfl rfl ?_
      refine r_pure (a_extract rfl) rfl rfl ?_
      refine r_pure (a_assign (r := .row _)) rfl rfl ?_
      refine aP rfl rfl ?_
      refine arun_nil ?_
      refine awp_seq ?_
      refine tx ?_
      refine lN Tryz.underlying24 rfl sz24 rfl rfl ⟨rfl, trivial⟩ ?_
      refine r_callS (fun n => 25 + 1000 * n) (q1) rfl rfl Tryz.func9 rfl rfl (by first | rfl | simp [AV.okInL, AV.okIn, okInL_map]) rfl rfl rfl (by first | exact trivial | exact ⟨rfl, trivial⟩ | exact ⟨rfl, rfl, trivial⟩) rfl rfl rfl ?_
      refine r_pure (a_move (r := .tup _)) rfl rfl ?_
      refine r_pure (a_extract rfl) rfl rfl ?_
      refine r_pure (a_extract rfl) rfl rfl ?_
      refine aP rfl rfl ?_
      refine aP rfl rfl ?_
      refine arun_nil ?_
      refine awp_seq ?_
      refine tx ?_
      refine lN Tryz.underlying27 rfl sz27 rfl rfl ⟨rfl, trivial⟩ ?_
      refine r_callS (fun n => 30 + 1000 * n) (q2) rfl rfl Tryz.func10 rfl rfl (by first | rfl | simp [AV.okInL, AV.okIn, okInL_map]) rfl rfl rfl (by first | exact trivial | exact ⟨rfl, trivial⟩ | exact ⟨rfl, rfl, trivial⟩) rfl rfl rfl ?_
      refine r_pure (a_move (r := .tup _)) rfl rfl ?_
      refine r_pure (a_extract rfl) rfl rfl ?_
      refine r_pure (a_extract rfl) rfl rfl ?_
      refine r_pure (a_assign (r := .row _)) rfl rfl ?_
      refine aP rfl rfl ?_
      refine arun_nil ?_
      refine awp_seq ?_
      refine tx ?_
      refine mP rfl rfl ?_
      refine mP rfl rfl ?_
      refine r_callV (fun n => 35 + 1000 * n) (hS0) rfl rfl Tryz.func11 rfl rfl (by first | rfl | simp [AV.noSl, AV.noSlL, AObj.noSl, PV.isV, bs_noSl]) (by first | rfl | simp [AV.noSl, AV.noSlL, AObj.noSl, PV.isV, bs_noSl]) rfl rfl rfl (by first | exact trivial | exact ⟨rfl, trivial⟩ | exact ⟨rfl, rfl, trivial⟩) rfl rfl rfl ?_
      refine mP rfl rfl ?_
      refine mP rfl rfl ?_
      refine mP rfl rfl ?_
      refine r_pure a_eqlT rfl rfl ?_
      refine r_pure a_pickT rfl rfl ?_
      refine mP rfl rfl ?_
      refine r_pure (a_move (r := .row _)) rfl rfl ?_
      refine r_pure (a_move (r := .row _)) rfl rfl ?_
      refine r_callV (fun n => 44 + 1000 * n) (hS2) rfl rfl Tryz.func11 rfl rfl (by first | rfl | simp [AV.noSl, AV.noSlL, AObj.noSl, PV.isV, bs_noSl]) (by first | rfl | simp [AV.noSl, AV.noSlL, AObj.noSl, PV.isV, bs_noSl]) rfl rfl rfl (by first | exact trivial | exact ⟨rfl, trivial⟩ | exact ⟨rfl, rfl, trivial⟩) rfl rfl rfl ?_
      refine r_pure a_pickT rfl rfl ?_
      refine mP rfl rfl ?_
      refine mP rfl rfl ?_
      refine mP rfl rfl ?_
      refine r_pure a_eqlT rfl rfl ?_
      refine r_pure a_pickT rfl rfl ?_
      refine aP rfl rfl ?_
      refine arun_nil ?_
      refine awp_ret ?_
      refine fT (fun o => o) (.tmp _ _ _ _ rfl .nil) ?_ ?_
      · exact rfl
      · exact trivial
    · have p2 := all_bad c okc hb
      have q2 := refAll_bad c okc hb
      generalize cfE c = e2 at *
      clear ok okc ha hb hpn
      obtain ⟨key, sh, ep, al, nets⟩ := p
      obtain ⟨ckey, port, ps⟩ := c
      change Fn Tryz.prog _ [.agg [.p (.v (.string key)), .p (.v (.string sh)), .p (.v (.string ep)), .p (.v (.int .i64 al)), .p (.sl nets.length 2 (nets.flatMap ntC))]] _ _ at p1
      change Fn Tryz.prog _ [.agg [.p (.v (.string key)), .p (.v (.string sh)), .p (.v (.string ep)), .p (.v (.int .i64 al)), .p (.sl nets.length 2 (nets.flatMap ntC))]] _ _ at q1
      change Fn Tryz.prog _ [.agg [.p (.v (.string ckey)), .p (.v (.int .i64 port)), .p (.sl ps.length 5 (ps.flatMap PE.pv))]] _ _ at p2
      change Fn Tryz.prog _ [.agg [.p (.v (.string ckey)), .p (.v (.int .i64 port)), .p (.sl ps.length 5 (ps.flatMap PE.pv))]] _ _ at q2
      show Fn Tryz.prog _ [.agg [.p (.v (.string key)), .p (.v (.string sh)), .p (.v (.string ep)), .p (.v (.int .i64 al)), .p (.sl nets.length 2 (nets.flatMap ntC))], .agg [.p (.v (.string ckey)), .p (.v (.int .i64 port)), .p (.sl ps.length 5 (ps.flatMap PE.pv))]] _ _
      generalize nets.flatMap ntC = NL at *
      generalize nets.length = nn at *
      generalize ps.flatMap PE.pv = PL at *
      generalize ps.length = pn at *
      refine fn_intro Tryz.func3 rfl (Nat.le_of_ble_eq_true rfl) fun w0 A => ?_
      refine awp_seq ?_
      refine tx ?_
      refine r_run (a_box (X := .agg _) 2 rfl) rfl rfl ⟨rfl, trivial⟩ ?_
      refine r_run (a_box (X := .agg _) 3 rfl) rfl rfl ⟨rfl, trivial⟩ ?_
      refine aP rfl rfl ?_
      refine arun_nil ?_
      refine awp_seq ?_
      refine tx ?_
      refine lN Tryz.underlying24 rfl sz24 rfl rfl ⟨rfl, trivial⟩ ?_
      refine r_callS (fun n => 15 + 1000 * n) (p1) rfl rfl Tryz.func7 rfl rfl (by first | rfl | simp [AV.okInL, AV.okIn, okInL_map]) rfl rfl rfl (by first | exact trivial | exact ⟨rfl, trivial⟩ | exact ⟨rfl, rfl, trivial⟩) rfl rfl rfl ?_
      refine r_pure (a_move (r := .tup _)) rfl rfl ?_
      refine r_pure (a_extract rfl) rfl rfl ?_
      refine r_pure (a_extract rfl) rfl rfl ?_
      refine aP rfl rfl ?_
      refine aP rfl rfl ?_
      refine arun_nil ?_
      refine awp_seq ?_
      refine tx ?_
      refine lN Tryz.underlying27 rfl sz27 rfl rfl ⟨rfl, trivial⟩ ?_
      refine r_callS (fun n => 20 + 1000 * n) (p2) rfl rfl Tryz.func8 rfl rfl (by first | rfl | simp [AV.okInL, AV.okIn, okInL_map]) rfl rfl rfl (by first | exact trivial | exact ⟨rfl, trivial⟩ | exact ⟨rfl, rfl, trivial⟩) rfl rfl rfl ?_
      refine r_pure (a_move (r := .tup _)) rfl rfl ?_
      refine r_pure (a_extract rfl) rfl rfl ?_
      refine r_pure (a_extract rfl) rfl rfl ?_
      refine aP rfl rfl ?_
      refine aP rfl rfl ?_
      refine arun_nil ?_
      refine awp_seq ?_
      refine tx ?_
      refine lN Tryz.underlying24 rfl sz24 rfl rfl ⟨rfl, trivial⟩ ?_
      refine r_callS (fun n => 25 + 1000 * n) (q1) rfl rfl Tryz.func9 rfl rfl (by first | rfl | simp [AV.okInL, AV.okIn, okInL_map]) rfl rfl rfl (by first | exact trivial | exact ⟨rfl, trivial⟩ | exact ⟨rfl, rfl, trivial⟩) rfl rfl rfl ?_
      refine r_pure (a_move (r := .tup _)) rfl rfl ?_
      refine r_pure (a_extract rfl) rfl rfl ?_
      refine r_pure (a_extract rfl) rfl rfl ?_
      refine aP rfl rfl ?_
      refine aP rfl rfl ?_
      refine arun_nil ?_
      refine awp_seq ?_
      refine tx ?_
      refine lN Tryz.underlying27 rfl sz27 rfl rfl ⟨rfl, trivial⟩ ?_
      refine r_callS (fun n => 30 + 1000 * n) (q2) rfl rfl Tryz.func10 rfl rfl (by first | rfl | simp [AV.okInL, AV.okIn, okInL_map]) rfl rfl rfl (by first | exact trivial | exact ⟨rfl, trivial⟩ | exact ⟨rfl, rfl, trivial⟩) rfl rfl rfl ?_
      refine r_pure (a_move (r := .tup _)) rfl rfl ?_
      refine r_pure (a_extract rfl) rfl rfl ?_
      refine r_pure (a_extract rfl) rfl rfl ?_
      refine aP rfl rfl ?_
      refine aP rfl rfl ?_
      refine arun_nil ?_
      refine awp_seq ?_
      refine tx ?_
      refine mP rfl rfl ?_
      refine mP rfl rfl ?_
      refine r_callV (fun n => 35 + 1000 * n) (hS0) rfl rfl Tryz.func11 rfl rfl (by first | rfl | simp [AV.noSl, AV.noSlL, AObj.noSl, PV.isV, bs_noSl]) (by first | rfl | simp [AV.noSl, AV.noSlL, AObj.noSl, PV.isV, bs_noSl]) rfl rfl rfl (by first | exact trivial | exact ⟨rfl, trivial⟩ | exact ⟨rfl, rfl, trivial⟩) rfl rfl rfl ?_
      refine mP rfl rfl ?_
      refine mP rfl rfl ?_
      refine mP rfl rfl ?_
      refine r_pure a_eqlT rfl rfl ?_
      refine r_pure a_pickT rfl rfl ?_
      refine mP rfl rfl ?_
      refine mP rfl rfl ?_
      refine mP rfl rfl ?_
      refine r_callV (fun n => 44 + 1000 * n) (hS0) rfl rfl Tryz.func11 rfl rfl (by first | rfl | simp [AV.noSl, AV.noSlL, AObj.noSl, PV.isV, bs_noSl]) (by first | rfl | simp [AV.noSl, AV.noSlL, AObj.noSl, PV.isV, bs_noSl]) rfl rfl rfl (by first | exact trivial | exact ⟨rfl, trivial⟩ | exact ⟨rfl, rfl, trivial⟩) rfl rfl rfl ?_
      refine r_pure a_pickT rfl rfl ?_
      refine mP rfl rfl ?_
      refine mP rfl rfl ?_
      refine mP rfl rfl ?_
      refine r_pure a_eqlT rfl rfl ?_
      refine r_pure a_pickT rfl rfl ?_
      refine aP rfl rfl ?_
      refine arun_nil ?_
      refine awp_ret ?_
      refine fT (fun o => o) (.tmp _ _ _ _ rfl .nil) ?_ ?_
      · exact rfl
      · exact trivial
end Go.Proofs.YtcjnecmgificmaaGreatDoor
