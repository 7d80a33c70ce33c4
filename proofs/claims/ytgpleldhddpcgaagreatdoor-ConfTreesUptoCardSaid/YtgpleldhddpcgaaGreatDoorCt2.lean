/- conf.Tree, the reference's ConfTree, over data. -/
import Derived.Test.YtgpleldhddpcgaaGreatDoorCt1
import Derived.Test.YtgpleldhddpcgaaGreatDoorCf4
import Derived.Test.YtgpleldhddpcgaaGreatDoorTw7
import Derived.Test.YtgpleldhddpcgaaGreatDoorTw9
--%T
namespace Go.Proofs.YtgpleldhddpcgaaGreatDoor
open Go.RowKit Go.Sort
set_option linter.unusedVariables false
set_option linter.unusedSimpArgs false
set_option maxRecDepth 100000

/-- the answer of either: the nodes, when the configuration is right -/
theorem ctree_bad (c : CF) (ok : c.OK) (h0 : cfE c ≠ 0) : Fn Tryz.prog 7 [.agg c.cells] (nRes (cfE c)) (nNew (cfE c) []) := by
  have hC := cfCheck_s c ok
  obtain ⟨e1, e2⟩ := nRes_bad h0 []
  rw [e1, e2]
  generalize cfE c = e at *
  obtain ⟨key, port, ps⟩ := c
  change Fn Tryz.prog _ [.agg [.p (.v (.string key)), .p (.v (.int .i64 port)), .p (.sl ps.length 5 (ps.flatMap PE.pv))]] _ _ at hC
  show Fn Tryz.prog _ [.agg [.p (.v (.string key)), .p (.v (.int .i64 port)), .p (.sl ps.length 5 (ps.flatMap PE.pv))]] _ _
  refine fn_intro Tryz.func7 rfl (Nat.le_of_ble_eq_true rfl) fun w0 A => ?_
  refine awp_seq ?_
  refine tx ?_
  refine r_run (a_box (X := .agg _) 1 rfl) rfl rfl ⟨rfl, trivial⟩ ?_
  refine aP rfl rfl ?_
  refine aP rfl rfl ?_
  refine arun_nil ?_
  refine awp_seq (awp_seq ?_)
  refine tx ?_
  refine lN Tryz.underlying24 rfl sz24 rfl rfl ⟨rfl, trivial⟩ ?_
  refine r_callS (fun n => 11 + 1000 * n) (hC) rfl rfl Tryz.func20 rfl rfl (by first | rfl | simp [AV.okInL, AV.okIn, okInL_map]) rfl rfl rfl (by first | exact trivial | exact ⟨rfl, trivial⟩ | exact ⟨rfl, rfl, trivial⟩) rfl rfl rfl ?_
  refine aP rfl rfl ?_
  refine arun_nil ?_
  refine awp_seq ?_
  refine tx ?_
  refine mP rfl rfl ?_
  refine r_pure a_neq rfl rfl ?_
  refine arun_nil ?_
  refine thn_n ?_
  refine awp_cond _ rfl (fun h => ?_) (fun h => ?_)
  · refine awp_seq ?_
    refine tx ?_
    refine mP rfl rfl ?_
    refine aP rfl rfl ?_
    refine aP rfl rfl ?_
    refine arun_nil ?_
    refine awp_ret (thn_r ?_)
    refine fT (fun o => o) (.tmp _ _ _ _ rfl (.tmp _ _ _ _ rfl .nil)) ?_ ?_
    · exact rfl
    · exact trivial
  · exact absurd (by simpa using h) h0
theorem rtree_bad (c : CF) (ok : c.OK) (h0 : cfE c ≠ 0) : Fn Tryz.prog 8 [.agg c.cells] (nRes (cfE c)) (nNew (cfE c) []) := by
  have hC := refConf_s c ok
  obtain ⟨e1, e2⟩ := nRes_bad h0 []
  rw [e1, e2]
  generalize cfE c = e at *
  obtain ⟨key, port, ps⟩ := c
  change Fn Tryz.prog _ [.agg [.p (.v (.string key)), .p (.v (.int .i64 port)), .p (.sl ps.length 5 (ps.flatMap PE.pv))]] _ _ at hC
  show Fn Tryz.prog _ [.agg [.p (.v (.string key)), .p (.v (.int .i64 port)), .p (.sl ps.length 5 (ps.flatMap PE.pv))]] _ _
  refine fn_intro Tryz.func8 rfl (Nat.le_of_ble_eq_true rfl) fun w0 A => ?_
  refine awp_seq ?_
  refine tx ?_
  refine r_run (a_box (X := .agg _) 1 rfl) rfl rfl ⟨rfl, trivial⟩ ?_
  refine aP rfl rfl ?_
  refine aP rfl rfl ?_
  refine arun_nil ?_
  refine awp_seq (awp_seq ?_)
  refine tx ?_
  refine lN Tryz.underlying24 rfl sz24 rfl rfl ⟨rfl, trivial⟩ ?_
  refine r_callS (fun n => 11 + 1000 * n) (hC) rfl rfl Tryz.func22 rfl rfl (by first | rfl | simp [AV.okInL, AV.okIn, okInL_map]) rfl rfl rfl (by first | exact trivial | exact ⟨rfl, trivial⟩ | exact ⟨rfl, rfl, trivial⟩) rfl rfl rfl ?_
  refine aP rfl rfl ?_
  refine arun_nil ?_
  refine awp_seq ?_
  refine tx ?_
  refine mP rfl rfl ?_
  refine r_pure a_neq rfl rfl ?_
  refine arun_nil ?_
  refine thn_n ?_
  refine awp_cond _ rfl (fun h => ?_) (fun h => ?_)
  · refine awp_seq ?_
    refine tx ?_
    refine mP rfl rfl ?_
    refine aP rfl rfl ?_
    refine aP rfl rfl ?_
    refine arun_nil ?_
    refine awp_ret (thn_r ?_)
    refine fT (fun o => o) (.tmp _ _ _ _ rfl (.tmp _ _ _ _ rfl .nil)) ?_ ?_
    · exact rfl
    · exact trivial
  · exact absurd (by simpa using h) h0
set_option maxHeartbeats 4000000 in
theorem ctree_s (c : CF) (ok : c.OK) (h0 : cfE c = 0) : Fn Tryz.prog 7 [.agg c.cells] (.tup [.row 0, .p (.v (.int .i64 0))]) [(0, .row 55 4 (tOf (pairsB c.ps c.ps.length)).list.length (nds (tOf (pairsB c.ps c.ps.length)).list))] := by
  have hC := cfCheck_s c ok
  rw [h0] at hC
  have hg := cf_good h0
  obtain ⟨key, port, ps⟩ := c
  have hok := ok.ps
  dsimp only at hg hok
  change Fn Tryz.prog _ [.agg [.p (.v (.string key)), .p (.v (.int .i64 port)), .p (.sl ps.length 5 (ps.flatMap PE.pv))]] _ _ at hC
  show Fn Tryz.prog _ [.agg [.p (.v (.string key)), .p (.v (.int .i64 port)), .p (.sl ps.length 5 (ps.flatMap PE.pv))]] _ [(0, .row 55 4 (tOf (pairsB ps ps.length)).list.length (nds (tOf (pairsB ps ps.length)).list))]
  have hok1 : ∀ p ∈ ps, p.OK := fun p hp => (hok p hp).1
  have hall := tOf_all hg hok1
  have h6 := hg.n6
  clear ok h0
  refine fn_intro Tryz.func7 rfl (Nat.le_of_ble_eq_true rfl) fun w0 A => ?_
  refine awp_seq ?_
  refine tx ?_
  refine r_run (a_box (X := .agg _) 1 rfl) rfl rfl ⟨rfl, trivial⟩ ?_
  refine aP rfl rfl ?_
  refine aP rfl rfl ?_
  refine arun_nil ?_
  refine awp_seq (awp_seq ?_)
  refine tx ?_
  refine lN Tryz.underlying24 rfl sz24 rfl rfl ⟨rfl, trivial⟩ ?_
  refine r_callS (fun n => 11 + 1000 * n) (hC) rfl rfl Tryz.func20 rfl rfl (by first | rfl | simp [AV.okInL, AV.okIn, okInL_map]) rfl rfl rfl (by first | exact trivial | exact ⟨rfl, trivial⟩ | exact ⟨rfl, rfl, trivial⟩) rfl rfl rfl ?_
  refine aP rfl rfl ?_
  refine arun_nil ?_
  refine awp_seq ?_
  refine tx ?_
  refine mP rfl rfl ?_
  refine r_pure a_neqT rfl rfl ?_
  refine arun_nil ?_
  refine thn_n ?_
  refine awp_cond _ rfl (fun h => ?_) (fun h => ?_)
  · cases h
  refine awp_skip (awp_seq ?_)
  refine tx ?_
  refine aP rfl rfl ?_
  refine arun_nil ?_
  refine thn_n (awp_re (re_nil 5 100 55 4 rfl rfl) ?_)
  refine awp_seq (awp_seq ?_)
  refine tx ?_
  refine fA fi24_2 rfl rfl ?_
  refine l1 Tryz.underlying22 rfl rfl rfl ⟨rfl, trivial⟩ ?_
  refine r_pure (a_lenS Tryz.underlying22) rfl rfl ?_
  refine mP rfl rfl ?_
  refine arun_nil ?_
  refine awp_block ?_
  refine awp_loopR (fun m st => ∃ i : Nat, m + i = ps.length ∧ st = St.of [(5, .row 100), (16, .p (.sl ps.length 5 (ps.flatMap PE.pv))), (17, .p (.v (.int .i64 ps.length))), (18, .p (.v (.int .i64 i)))] [(100, .row 55 4 (tOf (pairsB ps i)).list.length (nds (tOf (pairsB ps i)).list))]) ps.length ?_ ?_
  · refine ⟨_, re_of id _ _ ?_ ?_ rfl, 0, by omega, rfl⟩
    · (repeat (first | exact trivial | (refine ⟨⟨(by first | rfl | (simp; done) | (simp; omega)), rfl⟩, ?_⟩)))
    · rw [pairsB_zero]
      exact ⟨⟨rfl, rfl⟩, trivial⟩
  rintro m st ⟨i, hi, rfl⟩
  refine awp_seq ?_
  refine tx ?_
  refine r_pure a_lss rfl rfl ?_
  refine arun_nil ?_
  refine awp_seq ?_
  refine awp_cond _ rfl (fun h => ?_) (fun h => ?_)
  · have hlt : i < ps.length := by simp at h; omega
    clear h
    obtain ⟨p, hp⟩ : ∃ p, ps[i]? = some p := ⟨ps[i], List.getElem?_eq_getElem hlt⟩
    have hch := chunk_at (f := PE.pv) (k := 5) (fun _ => rfl) hp
    have hle := chunk_le (f := PE.pv) (k := 5) (fun _ => rfl) hlt
    have hmem := List.mem_of_getElem? hp
    have hpn := (hok p hmem).2
    have hin := tOf_in hg hok1 hp (hall i (by omega))
    have hnx := pairsB_next hp
    have hkey := (peE_nets (hg.pe p hmem)).2
    have h8 := (peE_nets (hg.pe p hmem)).1
    have hBl := pairs_few hg (Nat.le_of_lt hlt)
    have hnet := hg.net hmem
    have hnok := (hok1 p hmem).nets
    generalize ps.flatMap PE.pv = L at *
    refine awp_skip (awp_seq (awp_block (awp_seq ?_)))
    refine tx ?_
    refine r_pure (a_indexAddrS Tryz.underlying22 sz49 (by omega) (by omega) rfl) rfl rfl ?_
    refine r_pure (a_loadNp Tryz.underlying49 rfl sz49 (by first | omega | (simp; done) | (simp; omega)) (hch)) rfl rfl ?_
    refine r_run (a_alloc 7 zr49 rfl) rfl rfl ⟨rfl, trivial⟩ ?_
    refine r_run (a_storeAll (Y := .agg p.cells) sz49 rfl rfl (Nat.eq_of_beq_eq_true rfl)) rfl rfl ⟨rfl, trivial⟩ ?_
    refine arun_nil ?_
    refine awp_seq ?_
    refine tx ?_
    refine fA fi49_4 rfl rfl ?_
    refine l1 Tryz.underlying47 rfl rfl rfl ⟨rfl, trivial⟩ ?_
    refine r_pure (a_lenS Tryz.underlying47) rfl rfl ?_
    refine mP rfl rfl ?_
    refine arun_nil ?_
    refine awp_block ?_
    refine awp_loopR (fun m' st => ∃ j : Nat, m' + j = p.nets.length ∧ st = St.of [(5, .row 100), (7, .ref 7 0), (16, .p (.sl ps.length 5 L)), (17, .p (.v (.int .i64 ps.length))), (18, .p (.v (.int .i64 i))), (23, .p (.sl p.nets.length 2 (p.nets.flatMap ntC))), (24, .p (.v (.int .i64 p.nets.length))), (25, .p (.v (.int .i64 j)))] [(7, .box 49 p.cells), (100, .row 55 4 (tOf (pairsB ps i ++ pairsP p j)).list.length (nds (tOf (pairsB ps i ++ pairsP p j)).list))]) p.nets.length ?_ ?_
    · refine ⟨_, re_of id _ _ ?_ ?_ rfl, 0, by omega, rfl⟩
      · (repeat (first | exact trivial | (refine ⟨⟨(by first | rfl | (simp; done) | (simp; omega)), rfl⟩, ?_⟩)))
      · rw [pairsP_zero, List.append_nil]
        exact ⟨⟨rfl, rfl⟩, ⟨rfl, rfl⟩, trivial⟩
    rintro m' st ⟨j, hj, rfl⟩
    refine awp_seq ?_
    refine tx ?_
    refine r_pure a_lss rfl rfl ?_
    refine arun_nil ?_
    refine awp_seq ?_
    refine awp_cond _ rfl (fun h => ?_) (fun h => ?_)
    · have hlj : j < p.nets.length := by simp at h; omega
      clear h
      obtain ⟨q, hq⟩ : ∃ q, p.nets[j]? = some q := ⟨p.nets[j], List.getElem?_eq_getElem hlj⟩
      have hch2 := chunk_at (f := ntC) (k := 2) (fun _ => rfl) hq
      have hle2 := chunk_le (f := ntC) (k := 2) (fun _ => rfl) hlj
      have hqm := List.mem_of_getElem? hq
      have hq0 := hnok q hqm
      have hqf := hnet q hqm
      have hTM := hin j (by omega)
      have hML : (pairsB ps i ++ pairsP p j).length ≤ 1000 := by rw [List.length_append, pairsP_len p (by omega)]; omega
      have hTok := hTM.ok hML
      obtain ⟨hE, hTo⟩ := trieE_list hTok hTM.v hTM.s
      have hTl := hTM.l
      have hPut := Put_s (tOf (pairsB ps i ++ pairsP p j)).list hTok (by omega) ⟨q.1, q.2, p.key, 1⟩ ⟨hq0.1, hq0.2, by have := nkey_ok hq0.1 hq0.2 hqf; show (-9223372036854775808 : Int) ≤ q.2; omega, by have := nkey_ok hq0.1 hq0.2 hqf; show q.2 ≤ (9223372036854775807 : Int); omega, by show (-9223372036854775808 : Int) ≤ 1; omega, by show (1 : Int) ≤ 9223372036854775807; omega, key_size hkey⟩
      have hPE : putE (tOf (pairsB ps i ++ pairsP p j)).list ⟨q.1, q.2, p.key, 1⟩ = 0 := by
        unfold putE
        rw [if_neg (by rw [hE]; simp), if_neg (by show ¬ netFault q.1 q.2 ≠ 0; rw [hqf]; simp), if_neg (key_own hkey)]
      have hPL : putL (tOf (pairsB ps i ++ pairsP p j)).list ⟨q.1, q.2, p.key, 1⟩ = (tOf (pairsB ps i ++ pairsP p (j + 1))).list := by
        rw [pairsP_next hq, ← List.append_assoc, tOf_snoc]
        unfold putL
        rw [hTo]
        rfl
      rw [hPE, hPL] at hPut
      rw [(nRes_good []).1, (nRes_good (tOf (pairsB ps i ++ pairsP p (j + 1))).list).2] at hPut
      have hv := nds_isV (tOf (pairsB ps i ++ pairsP p (j + 1))).list
      clear hPE hPL hTo hE hTl hTok hTM hML
      obtain ⟨a, b⟩ := q
      dsimp only at hPut
      change Fn Tryz.prog _ [.p (.sl (tOf (pairsB ps i ++ pairsP p j)).list.length 4 (nds (tOf (pairsB ps i ++ pairsP p j)).list)), .agg [.p (.v (.int .u32 a)), .p (.v (.int .i64 b))], .p (.v (.string p.key))] _ _ at hPut
      generalize hN1 : nds (tOf (pairsB ps i ++ pairsP p (j + 1))).list = N1 at *
      generalize hn1 : (tOf (pairsB ps i ++ pairsP p (j + 1))).list.length = n1 at *
      generalize nds (tOf (pairsB ps i ++ pairsP p j)).list = N0 at *
      generalize (tOf (pairsB ps i ++ pairsP p j)).list.length = n0 at *
      generalize hNL : p.nets.flatMap ntC = NL at *
      refine awp_skip (awp_seq (awp_block (awp_seq ?_)))
      refine tx ?_
      refine r_pure (a_indexAddrS Tryz.underlying47 sz52 (by omega) (by omega) rfl) rfl rfl ?_
      refine r_pure (a_loadNp Tryz.underlying52 rfl sz52 (by first | omega | (simp; done) | (simp; omega)) (hch2)) rfl rfl ?_
      refine r_run (a_alloc 9 zr52 rfl) rfl rfl ⟨rfl, trivial⟩ ?_
      refine r_run (a_storeAll (Y := .agg [.p (.v (.int .u32 a)), .p (.v (.int .i64 b))]) sz52 rfl rfl (Nat.eq_of_beq_eq_true rfl)) rfl rfl ⟨rfl, trivial⟩ ?_
      refine arun_nil ?_
      refine thn_n ?_
      refine tx ?_
      refine r_pure (a_move (r := .row _)) rfl rfl ?_
      refine lN Tryz.underlying52 rfl sz52 rfl rfl ⟨rfl, trivial⟩ ?_
      refine fA fi49_0 rfl rfl ?_
      refine l1 Tryz.underlying9 rfl rfl rfl ⟨rfl, trivial⟩ ?_
      refine r_callV (fun n => 34 + 1000 * n) (hPut) rfl rfl Tryz.func21 rfl rfl (by first | rfl | simp [AV.noSl, AV.noSlL, AObj.noSl, hv]) (by first | rfl | simp [AV.noSl, AV.noSlL, AObj.noSl, hv]) rfl rfl rfl (by first | exact trivial | exact ⟨rfl, trivial⟩ | exact ⟨rfl, rfl, trivial⟩) rfl rfl rfl ?_
      refine r_pure (a_move (r := .tup _)) rfl rfl ?_
      refine r_pure (a_extract rfl) rfl rfl ?_
      refine r_pure (a_extract rfl) rfl rfl ?_
      refine r_pure (a_assign (r := .row _)) rfl rfl ?_
      refine arun_nil ?_
      refine inb_n (thn_n ?_)
      refine tx ?_
      refine r_pure (a_add (by first | exact IntWalk.i64_in _ (by omega) | rfl)) rfl rfl ?_
      refine mP rfl rfl ?_
      refine arun_nil ?_
      refine thn_n ?_
      refine ⟨m' - 1, by omega, _, re_of (fun o => bif Nat.beq o 100 then 34 else o) _ _ ?_ ?_ rfl, j + 1, by omega, rfl⟩
      · (repeat (first | exact trivial | (refine ⟨⟨(by first | rfl | (simp; done) | (simp; omega)), rfl⟩, ?_⟩)))
      · exact ⟨⟨rfl, rfl⟩, ⟨by rw [hn1, hN1]; rfl, rfl⟩, trivial⟩
    have hge : j = p.nets.length := by simp at h; omega
    clear h
    subst hge
    rw [← hnx]
    refine awp_exit (thn_x (thn_x (inb_x (inb_n (thn_n ?_)))))
    refine tx ?_
    refine r_pure (a_add (by first | exact IntWalk.i64_in _ (by omega) | rfl)) rfl rfl ?_
    refine mP rfl rfl ?_
    refine arun_nil ?_
    refine thn_n ?_
    refine ⟨m - 1, by omega, _, re_of id _ _ ?_ ?_ rfl, i + 1, by omega, rfl⟩
    · (repeat (first | exact trivial | (refine ⟨⟨(by first | rfl | (simp; done) | (simp; omega)), rfl⟩, ?_⟩)))
    · exact ⟨⟨rfl, rfl⟩, trivial⟩
  have hge : i = ps.length := by simp at h; omega
  clear h
  subst hge
  refine awp_exit (awp_seq ?_)
  refine tx ?_
  refine r_pure (a_move (r := .row _)) rfl rfl ?_
  refine r_pure (a_assign (r := .row _)) rfl rfl ?_
  refine aP rfl rfl ?_
  refine arun_nil ?_
  refine awp_ret ?_
  refine fT (fun _ => 100) (.tmp _ _ _ _ rfl (.tmp _ _ _ _ rfl .nil)) ?_ ?_
  · exact rfl
  · exact ⟨⟨rfl, rfl⟩, trivial⟩
theorem ones_push (M : List (Key × Own)) (a b : Int) (o : Own) (h : one (nkey (a, b), o) = ⟨a, b, o, 1⟩) : nds (M.map one) ++ [.v (.int .u32 a), .v (.int .i64 b), .v (.string o), .v (.int .i64 1)] = nds ((M ++ [(nkey (a, b), o)]).map one) := by
  rw [List.map_append, nds_app, List.map_cons, h]
  rfl
set_option maxHeartbeats 4000000 in
theorem rtree_s (c : CF) (ok : c.OK) (h0 : cfE c = 0) : Fn Tryz.prog 8 [.agg c.cells] (.tup [.row 0, .p (.v (.int .i64 0))]) [(0, .row 55 4 (tOf (pairsB c.ps c.ps.length)).list.length (nds (tOf (pairsB c.ps c.ps.length)).list))] := by
  have hC := refConf_s c ok
  rw [h0] at hC
  have hg := cf_good h0
  obtain ⟨key, port, ps⟩ := c
  have hok := ok.ps
  dsimp only at hg hok
  change Fn Tryz.prog _ [.agg [.p (.v (.string key)), .p (.v (.int .i64 port)), .p (.sl ps.length 5 (ps.flatMap PE.pv))]] _ _ at hC
  show Fn Tryz.prog _ [.agg [.p (.v (.string key)), .p (.v (.int .i64 port)), .p (.sl ps.length 5 (ps.flatMap PE.pv))]] _ [(0, .row 55 4 (tOf (pairsB ps ps.length)).list.length (nds (tOf (pairsB ps ps.length)).list))]
  have hok1 : ∀ p ∈ ps, p.OK := fun p hp => (hok p hp).1
  have hall := tOf_all hg hok1
  have h6 := hg.n6
  clear ok h0
  refine fn_intro Tryz.func8 rfl (Nat.le_of_ble_eq_true rfl) fun w0 A => ?_
  refine awp_seq ?_
  refine tx ?_
  refine r_run (a_box (X := .agg _) 1 rfl) rfl rfl ⟨rfl, trivial⟩ ?_
  refine aP rfl rfl ?_
  refine aP rfl rfl ?_
  refine arun_nil ?_
  refine awp_seq (awp_seq ?_)
  refine tx ?_
  refine lN Tryz.underlying24 rfl sz24 rfl rfl ⟨rfl, trivial⟩ ?_
  refine r_callS (fun n => 11 + 1000 * n) (hC) rfl rfl Tryz.func22 rfl rfl (by first | rfl | simp [AV.okInL, AV.okIn, okInL_map]) rfl rfl rfl (by first | exact trivial | exact ⟨rfl, trivial⟩ | exact ⟨rfl, rfl, trivial⟩) rfl rfl rfl ?_
  refine aP rfl rfl ?_
  refine arun_nil ?_
  refine awp_seq ?_
  refine tx ?_
  refine mP rfl rfl ?_
  refine r_pure a_neqT rfl rfl ?_
  refine arun_nil ?_
  refine thn_n ?_
  refine awp_cond _ rfl (fun h => ?_) (fun h => ?_)
  · cases h
  refine awp_skip (awp_seq ?_)
  refine tx ?_
  refine aP rfl rfl ?_
  refine arun_nil ?_
  refine thn_n (awp_re (re_nil 5 100 55 4 rfl rfl) ?_)
  refine awp_seq (awp_seq ?_)
  refine tx ?_
  refine fA fi24_2 rfl rfl ?_
  refine l1 Tryz.underlying22 rfl rfl rfl ⟨rfl, trivial⟩ ?_
  refine r_pure (a_lenS Tryz.underlying22) rfl rfl ?_
  refine mP rfl rfl ?_
  refine arun_nil ?_
  refine awp_block ?_
  refine awp_loopR (fun m st => ∃ i : Nat, m + i = ps.length ∧ st = St.of [(5, .row 100), (16, .p (.sl ps.length 5 (ps.flatMap PE.pv))), (17, .p (.v (.int .i64 ps.length))), (18, .p (.v (.int .i64 i)))] [(100, .row 55 4 (pairsB ps i).length (nds ((pairsB ps i).map one)))]) ps.length ?_ ?_
  · refine ⟨_, re_of id _ _ ?_ ?_ rfl, 0, by omega, rfl⟩
    · (repeat (first | exact trivial | (refine ⟨⟨(by first | rfl | (simp; done) | (simp; omega)), rfl⟩, ?_⟩)))
    · rw [pairsB_zero]
      exact ⟨⟨rfl, rfl⟩, trivial⟩
  rintro m st ⟨i, hi, rfl⟩
  refine awp_seq ?_
  refine tx ?_
  refine r_pure a_lss rfl rfl ?_
  refine arun_nil ?_
  refine awp_seq ?_
  refine awp_cond _ rfl (fun h => ?_) (fun h => ?_)
  · have hlt : i < ps.length := by simp at h; omega
    clear h
    obtain ⟨p, hp⟩ : ∃ p, ps[i]? = some p := ⟨ps[i], List.getElem?_eq_getElem hlt⟩
    have hch := chunk_at (f := PE.pv) (k := 5) (fun _ => rfl) hp
    have hle := chunk_le (f := PE.pv) (k := 5) (fun _ => rfl) hlt
    have hmem := List.mem_of_getElem? hp
    have hpn := (hok p hmem).2
    have hnx := pairsB_next hp
    have h8 := (peE_nets (hg.pe p hmem)).1
    have hBl := pairs_few hg (Nat.le_of_lt hlt)
    have hnet := hg.net hmem
    have hnok := (hok1 p hmem).nets
    generalize ps.flatMap PE.pv = L at *
    refine awp_skip (awp_seq (awp_block (awp_seq ?_)))
    refine tx ?_
    refine r_pure (a_indexAddrS Tryz.underlying22 sz49 (by omega) (by omega) rfl) rfl rfl ?_
    refine r_pure (a_loadNp Tryz.underlying49 rfl sz49 (by first | omega | (simp; done) | (simp; omega)) (hch)) rfl rfl ?_
    refine r_run (a_alloc 7 zr49 rfl) rfl rfl ⟨rfl, trivial⟩ ?_
    refine r_run (a_storeAll (Y := .agg p.cells) sz49 rfl rfl (Nat.eq_of_beq_eq_true rfl)) rfl rfl ⟨rfl, trivial⟩ ?_
    refine arun_nil ?_
    refine awp_seq ?_
    refine tx ?_
    refine fA fi49_4 rfl rfl ?_
    refine l1 Tryz.underlying47 rfl rfl rfl ⟨rfl, trivial⟩ ?_
    refine r_pure (a_lenS Tryz.underlying47) rfl rfl ?_
    refine mP rfl rfl ?_
    refine arun_nil ?_
    refine awp_block ?_
    refine awp_loopR (fun m' st => ∃ j : Nat, m' + j = p.nets.length ∧ st = St.of [(5, .row 100), (7, .ref 7 0), (16, .p (.sl ps.length 5 L)), (17, .p (.v (.int .i64 ps.length))), (18, .p (.v (.int .i64 i))), (23, .p (.sl p.nets.length 2 (p.nets.flatMap ntC))), (24, .p (.v (.int .i64 p.nets.length))), (25, .p (.v (.int .i64 j)))] [(7, .box 49 p.cells), (100, .row 55 4 ((pairsB ps i).length + j) (nds ((pairsB ps i ++ pairsP p j).map one)))]) p.nets.length ?_ ?_
    · refine ⟨_, re_of id _ _ ?_ ?_ rfl, 0, by omega, rfl⟩
      · (repeat (first | exact trivial | (refine ⟨⟨(by first | rfl | (simp; done) | (simp; omega)), rfl⟩, ?_⟩)))
      · rw [pairsP_zero, List.append_nil]
        exact ⟨⟨rfl, rfl⟩, ⟨rfl, rfl⟩, trivial⟩
    rintro m' st ⟨j, hj, rfl⟩
    refine awp_seq ?_
    refine tx ?_
    refine r_pure a_lss rfl rfl ?_
    refine arun_nil ?_
    refine awp_seq ?_
    refine awp_cond _ rfl (fun h => ?_) (fun h => ?_)
    · have hlj : j < p.nets.length := by simp at h; omega
      clear h
      obtain ⟨q, hq⟩ : ∃ q, p.nets[j]? = some q := ⟨p.nets[j], List.getElem?_eq_getElem hlj⟩
      have hch2 := chunk_at (f := ntC) (k := 2) (fun _ => rfl) hq
      have hle2 := chunk_le (f := ntC) (k := 2) (fun _ => rfl) hlj
      have hqm := List.mem_of_getElem? hq
      have hq0 := hnok q hqm
      have hqf := hnet q hqm
      have hpx := pairsP_next hq
      have hcl : (nds ((pairsB ps i ++ pairsP p j).map one)).length = ((pairsB ps i).length + j) * 4 := by rw [nds_len, List.length_map, List.length_append, pairsP_len p (by omega)]
      obtain ⟨a, b⟩ := q
      have hone : one (nkey (a, b), p.key) = ⟨a, b, p.key, 1⟩ := by
        obtain ⟨_, k1, k2⟩ := nkey_ok hq0.1 hq0.2 hqf
        dsimp only at k1 k2
        unfold one
        dsimp only
        rw [← k1, ← k2]
      have hpush := ones_push (pairsB ps i ++ pairsP p j) a b p.key hone
      rw [List.append_assoc (pairsB ps i), ← hpx] at hpush
      generalize nds ((pairsB ps i ++ pairsP p j).map one) = N0 at *
      generalize hNL : p.nets.flatMap ntC = NL at *
      refine awp_skip (awp_seq (awp_block (awp_seq ?_)))
      refine tx ?_
      refine r_pure (a_indexAddrS Tryz.underlying47 sz52 (by omega) (by omega) rfl) rfl rfl ?_
      refine r_pure (a_loadNp Tryz.underlying52 rfl sz52 (by first | omega | (simp; done) | (simp; omega)) (hch2)) rfl rfl ?_
      refine r_run (a_alloc 9 zr52 rfl) rfl rfl ⟨rfl, trivial⟩ ?_
      refine r_run (a_storeAll (Y := .agg [.p (.v (.int .u32 a)), .p (.v (.int .i64 b))]) sz52 rfl rfl (Nat.eq_of_beq_eq_true rfl)) rfl rfl ⟨rfl, trivial⟩ ?_
      refine arun_nil ?_
      refine thn_n ?_
      refine tx ?_
      refine r_pure (a_move (r := .row _)) rfl rfl ?_
      refine lN Tryz.underlying52 rfl sz52 rfl rfl ⟨rfl, trivial⟩ ?_
      refine fA fi49_0 rfl rfl ?_
      refine l1 Tryz.underlying9 rfl rfl rfl ⟨rfl, trivial⟩ ?_
      refine r_pure (b_build pl55 zr55 rfl rfl) rfl rfl ?_
      refine r_run (xs := [.agg [.p (.v (.int .u32 a)), .p (.v (.int .i64 b)), .p (.v (.string p.key)), .p (.v (.int .i64 1))]]) (a_buildSlice (es := [.p (.v (.int .u32 a)), .p (.v (.int .i64 b)), .p (.v (.string p.key)), .p (.v (.int .i64 1))]) (cs := [.v (.int .u32 a), .v (.int .i64 b), .v (.string p.key), .v (.int .i64 1)]) 34 Tryz.underlying25 sz55 zc55 (Nat.le_of_ble_eq_true rfl) (Nat.le_of_ble_eq_true rfl) rfl (by kernel_rfl) (by kernel_rfl) (by kernel_rfl) (Nat.le_of_ble_eq_true rfl)) (by first | rfl | kernel_rfl) rfl ⟨rfl, trivial⟩ ?_
      refine r_run (a_append 35 Tryz.underlying25 eo55 (src_row) (by simp only [maxLen]; omega) (by omega) rfl rfl) rfl rfl ⟨rfl, rfl, rfl, trivial⟩ ?_
      refine r_pure (a_assign (r := .row _)) rfl rfl ?_
      refine arun_nil ?_
      refine inb_n (thn_n ?_)
      refine tx ?_
      refine r_pure (a_add (by first | exact IntWalk.i64_in _ (by omega) | rfl)) rfl rfl ?_
      refine mP rfl rfl ?_
      refine arun_nil ?_
      refine thn_n ?_
      refine ⟨m' - 1, by omega, _, re_of (fun o => bif Nat.beq o 100 then 35 else o) _ _ ?_ ?_ rfl, j + 1, by omega, rfl⟩
      · (repeat (first | exact trivial | (refine ⟨⟨(by first | rfl | (simp; done) | (simp; omega)), rfl⟩, ?_⟩)))
      · exact ⟨⟨rfl, rfl⟩, ⟨by rw [← hpush]; rfl, rfl⟩, trivial⟩
    have hge : j = p.nets.length := by simp at h; omega
    clear h
    subst hge
    rw [← hnx]
    refine awp_exit (thn_x (thn_x (inb_x (inb_n (thn_n ?_)))))
    refine tx ?_
    refine r_pure (a_add (by first | exact IntWalk.i64_in _ (by omega) | rfl)) rfl rfl ?_
    refine mP rfl rfl ?_
    refine arun_nil ?_
    refine thn_n ?_
    refine ⟨m - 1, by omega, _, re_of id _ _ ?_ ?_ rfl, i + 1, by omega, rfl⟩
    · (repeat (first | exact trivial | (refine ⟨⟨(by first | rfl | (simp; done) | (simp; omega)), rfl⟩, ?_⟩)))
    · refine ⟨⟨?_, rfl⟩, trivial⟩
      rw [show (pairsB ps (i + 1)).length = (pairsB ps i).length + p.nets.length by rw [hnx, List.length_append, pairsP_len p (Nat.le_refl _)]]
      rfl
  have hge : i = ps.length := by simp at h; omega
  clear h
  subst hge
  have hT := hall ps.length (Nat.le_refl _)
  have hfew := pairs_few hg (Nat.le_refl ps.length)
  have hG := grown_s (pairsB ps ps.length).length (pairsB ps ps.length) (Nat.le_refl _) hT.k (by omega)
  rw [show (grownF (pairsB ps ps.length).length (pairsB ps ps.length)).map toND = (tOf (pairsB ps ps.length)).list from hT.grown] at hG
  have hcl : (nds ((pairsB ps ps.length).map one)).length = (pairsB ps ps.length).length * 4 := by rw [nds_len, List.length_map]
  have hv := nds_isV (tOf (pairsB ps ps.length)).list
  generalize nds (tOf (pairsB ps ps.length)).list = N1 at *
  generalize (tOf (pairsB ps ps.length)).list.length = n1 at *
  generalize nds ((pairsB ps ps.length).map one) = N0 at *
  generalize (pairsB ps ps.length).length = n0 at *
  refine awp_exit (awp_seq ?_)
  refine tx ?_
  refine r_pure (a_move (r := .row _)) rfl rfl ?_
  refine r_callV (fun n => 39 + 1000 * n) (hG) rfl rfl Tryz.func23 rfl rfl (by first | rfl | simp [AV.noSl, AV.noSlL, AObj.noSl, hv]) (by first | rfl | simp [AV.noSl, AV.noSlL, AObj.noSl, hv]) rfl rfl rfl (by first | exact trivial | exact ⟨rfl, trivial⟩ | exact ⟨rfl, rfl, trivial⟩) rfl rfl rfl ?_
  refine r_pure (a_assign (r := .row _)) rfl rfl ?_
  refine aP rfl rfl ?_
  refine arun_nil ?_
  refine awp_ret ?_
  refine fT (fun _ => 39) (.tmp _ _ _ _ rfl (.tmp _ _ _ _ rfl .nil)) ?_ ?_
  · exact rfl
  · exact ⟨⟨rfl, rfl⟩, trivial⟩
theorem law_ConfTrees (x0 : List PV) (ty0 : Ty Tryz.prog 10 24 x0) (hb0 : PV.bdL 1048576 x0) : Fn Tryz.prog 3 [argAV true x0] (.p (.v (.bool true))) [] := by
  obtain ⟨c, ok, rfl⟩ := CF.of_ty ty0 hb0
  show Fn Tryz.prog _ [.agg c.cells] _ _
  by_cases h0 : cfE c = 0
  · have p1 := ctree_s c ok h0
    have q1 := rtree_s c ok h0
    have hg := cf_good h0
    have hT := tOf_all hg (fun p hp => (ok.ps p hp).1) c.ps.length (Nat.le_refl _)
    have hfew := pairs_few hg (Nat.le_refl c.ps.length)
    have h6 := hg.n6
    have hS := sameNodes_s (tOf (pairsB c.ps c.ps.length)).list (by have := hT.l; omega)
    unfold ndsV at hS
    clear hT hg hfew h6
    generalize nds (tOf (pairsB c.ps c.ps.length)).list = N1 at *
    generalize (tOf (pairsB c.ps c.ps.length)).list.length = n1 at *
    clear ok h0
    obtain ⟨key, port, ps⟩ := c
    change Fn Tryz.prog _ [.agg [.p (.v (.string key)), .p (.v (.int .i64 port)), .p (.sl ps.length 5 (ps.flatMap PE.pv))]] _ _ at p1
    change Fn Tryz.prog _ [.agg [.p (.v (.string key)), .p (.v (.int .i64 port)), .p (.sl ps.length 5 (ps.flatMap PE.pv))]] _ _ at q1
    show Fn Tryz.prog _ [.agg [.p (.v (.string key)), .p (.v (.int .i64 port)), .p (.sl ps.length 5 (ps.flatMap PE.pv))]] _ _
    refine fn_intro Tryz.func3 rfl (Nat.le_of_ble_eq_true rfl) fun w0 A => ?_
    refine awp_seq ?_
    refine tx ?_
    refine r_run (a_box (X := .agg _) 1 rfl) rfl rfl ⟨rfl, trivial⟩ ?_
    refine aP rfl rfl ?_
    refine arun_nil ?_
    refine awp_seq ?_
    refine tx ?_
    refine lN Tryz.underlying24 rfl sz24 rfl rfl ⟨rfl, trivial⟩ ?_
    refine r_callS (fun n => 9 + 1000 * n) (p1) rfl rfl Tryz.func7 rfl rfl (by first | rfl | simp [AV.okInL, AV.okIn, okInL_map]) rfl rfl rfl (by first | exact trivial | exact ⟨rfl, trivial⟩ | exact ⟨rfl, rfl, trivial⟩) rfl rfl rfl ?_
    refine r_pure (a_move (r := .tup _)) rfl rfl ?_
    refine r_pure (a_extract rfl) rfl rfl ?_
    refine r_pure (a_extract rfl) rfl rfl ?_
    refine r_pure (a_assign (r := .row _)) rfl rfl ?_
    refine aP rfl rfl ?_
    refine arun_nil ?_
    refine awp_seq ?_
    refine tx ?_
    refine lN Tryz.underlying24 rfl sz24 rfl rfl ⟨rfl, trivial⟩ ?_
    refine r_callS (fun n => 14 + 1000 * n) (q1) rfl rfl Tryz.func8 rfl rfl (by first | rfl | simp [AV.okInL, AV.okIn, okInL_map]) rfl rfl rfl (by first | exact trivial | exact ⟨rfl, trivial⟩ | exact ⟨rfl, rfl, trivial⟩) rfl rfl rfl ?_
    refine r_pure (a_move (r := .tup _)) rfl rfl ?_
    refine r_pure (a_extract rfl) rfl rfl ?_
    refine r_pure (a_extract rfl) rfl rfl ?_
    refine r_pure (a_assign (r := .row _)) rfl rfl ?_
    refine aP rfl rfl ?_
    refine arun_nil ?_
    refine awp_seq ?_
    refine tx ?_
    refine r_pure (a_move (r := .row _)) rfl rfl ?_
    refine r_pure (a_move (r := .row _)) rfl rfl ?_
    refine r_callV (fun n => 19 + 1000 * n) (hS) rfl rfl Tryz.func9 rfl rfl (by first | rfl | simp [AV.noSl, AV.noSlL, AObj.noSl, PV.isV, bs_noSl]) (by first | rfl | simp [AV.noSl, AV.noSlL, AObj.noSl, PV.isV, bs_noSl]) rfl rfl rfl (by first | exact trivial | exact ⟨rfl, trivial⟩ | exact ⟨rfl, rfl, trivial⟩) rfl rfl rfl ?_
    refine mP rfl rfl ?_
    refine mP rfl rfl ?_
    refine mP rfl rfl ?_
    refine r_pure a_eqlT rfl rfl ?_
    refine r_pure a_pickT rfl rfl ?_
    refine aP rfl rfl ?_
    refine arun_nil ?_
    refine awp_ret ?_
    refine fT (fun o => o) (.tmp _ _ _ _ rfl .nil) ?_ ?_
    · exact rfl
    · exact trivial
  · have p1 := ctree_bad c ok h0
    have q1 := rtree_bad c ok h0
    obtain ⟨e1, e2⟩ := nRes_bad h0 []
    rw [e1, e2] at p1 q1
    have hS := sameNodesNil_s
    generalize cfE c = e at *
    clear ok h0
    obtain ⟨key, port, ps⟩ := c
    change Fn Tryz.prog _ [.agg [.p (.v (.string key)), .p (.v (.int .i64 port)), .p (.sl ps.length 5 (ps.flatMap PE.pv))]] _ _ at p1
    change Fn Tryz.prog _ [.agg [.p (.v (.string key)), .p (.v (.int .i64 port)), .p (.sl ps.length 5 (ps.flatMap PE.pv))]] _ _ at q1
    show Fn Tryz.prog _ [.agg [.p (.v (.string key)), .p (.v (.int .i64 port)), .p (.sl ps.length 5 (ps.flatMap PE.pv))]] _ _
    refine fn_intro Tryz.func3 rfl (Nat.le_of_ble_eq_true rfl) fun w0 A => ?_
    refine awp_seq ?_
    refine tx ?_
    refine r_run (a_box (X := .agg _) 1 rfl) rfl rfl ⟨rfl, trivial⟩ ?_
    refine aP rfl rfl ?_
    refine arun_nil ?_
    refine awp_seq ?_
    refine tx ?_
    refine lN Tryz.underlying24 rfl sz24 rfl rfl ⟨rfl, trivial⟩ ?_
    refine r_callS (fun n => 9 + 1000 * n) (p1) rfl rfl Tryz.func7 rfl rfl (by first | rfl | simp [AV.okInL, AV.okIn, okInL_map]) rfl rfl rfl (by first | exact trivial | exact ⟨rfl, trivial⟩ | exact ⟨rfl, rfl, trivial⟩) rfl rfl rfl ?_
    refine r_pure (a_move (r := .tup _)) rfl rfl ?_
    refine r_pure (a_extract rfl) rfl rfl ?_
    refine r_pure (a_extract rfl) rfl rfl ?_
    refine aP rfl rfl ?_
    refine aP rfl rfl ?_
    refine arun_nil ?_
    refine awp_seq ?_
    refine tx ?_
    refine lN Tryz.underlying24 rfl sz24 rfl rfl ⟨rfl, trivial⟩ ?_
    refine r_callS (fun n => 14 + 1000 * n) (q1) rfl rfl Tryz.func8 rfl rfl (by first | rfl | simp [AV.okInL, AV.okIn, okInL_map]) rfl rfl rfl (by first | exact trivial | exact ⟨rfl, trivial⟩ | exact ⟨rfl, rfl, trivial⟩) rfl rfl rfl ?_
    refine r_pure (a_move (r := .tup _)) rfl rfl ?_
    refine r_pure (a_extract rfl) rfl rfl ?_
    refine r_pure (a_extract rfl) rfl rfl ?_
    refine aP rfl rfl ?_
    refine aP rfl rfl ?_
    refine arun_nil ?_
    refine awp_seq ?_
    refine tx ?_
    refine mP rfl rfl ?_
    refine mP rfl rfl ?_
    refine r_callV (fun n => 19 + 1000 * n) (hS) rfl rfl Tryz.func9 rfl rfl (by first | rfl | simp [AV.noSl, AV.noSlL, AObj.noSl, PV.isV, bs_noSl]) (by first | rfl | simp [AV.noSl, AV.noSlL, AObj.noSl, PV.isV, bs_noSl]) rfl rfl rfl (by first | exact trivial | exact ⟨rfl, trivial⟩ | exact ⟨rfl, rfl, trivial⟩) rfl rfl rfl ?_
    refine mP rfl rfl ?_
    refine mP rfl rfl ?_
    refine mP rfl rfl ?_
    refine r_pure a_eqlT rfl rfl ?_
    refine r_pure a_pickT rfl rfl ?_
    refine aP rfl rfl ?_
    refine arun_nil ?_
    refine awp_ret ?_
    refine fT (fun o => o) (.tmp _ _ _ _ rfl .nil) ?_ ?_
    · exact rfl
    · exact trivial
end Go.Proofs.YtgpleldhddpcgaaGreatDoor
