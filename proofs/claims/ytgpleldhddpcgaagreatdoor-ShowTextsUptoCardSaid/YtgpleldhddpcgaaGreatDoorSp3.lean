/- The reference's ShowPeer, over data. -/
import Derived.Test.YtgpleldhddpcgaaGreatDoorSp2
--%T
namespace Go.Proofs.YtgpleldhddpcgaaGreatDoor
open Go.RowKit Go.Sort
set_option linter.unusedVariables false
set_option linter.unusedSimpArgs false
set_option maxRecDepth 100000

set_option maxHeartbeats 4000000 in
theorem refShow_bad (p : PE) (ok : p.OK) (h0 : peE p ≠ 0) : Fn Tryz.prog 68 [.agg p.cells] (.tup [.p (.v (.slice none 0 0)), .p (.v (.int .i64 (peE p)))]) [] := by
  have hC := refPeer_s p ok
  generalize peE p = e at *
  obtain ⟨key, sh, ep, al, nets⟩ := p
  change Fn Tryz.prog _ [.agg [.p (.v (.string key)), .p (.v (.string sh)), .p (.v (.string ep)), .p (.v (.int .i64 al)), .p (.sl nets.length 2 (nets.flatMap ntC))]] _ _ at hC
  show Fn Tryz.prog _ [.agg [.p (.v (.string key)), .p (.v (.string sh)), .p (.v (.string ep)), .p (.v (.int .i64 al)), .p (.sl nets.length 2 (nets.flatMap ntC))]] _ _
  refine fn_intro Tryz.func68 rfl (Nat.le_of_ble_eq_true rfl) fun w0 A => ?_
  refine awp_seq ?_
  refine tx ?_
  refine r_run (a_box (X := .agg _) 1 rfl) rfl rfl ⟨rfl, trivial⟩ ?_
  refine aP rfl rfl ?_
  refine aP rfl rfl ?_
  refine arun_nil ?_
  refine awp_seq (awp_seq ?_)
  refine tx ?_
  refine lN Tryz.underlying49 rfl sz49 rfl rfl ⟨rfl, trivial⟩ ?_
  refine r_callS (fun n => 10 + 1000 * n) (hC) rfl rfl Tryz.func62 rfl rfl (by first | rfl | simp [AV.okInL, AV.okIn, okInL_map]) rfl rfl rfl (by first | exact trivial | exact ⟨rfl, trivial⟩ | exact ⟨rfl, rfl, trivial⟩) rfl rfl rfl ?_
  refine aP rfl rfl ?_
  refine arun_nil ?_
  refine awp_seq ?_
  refine tx ?_
  refine mP rfl rfl ?_
  refine r_pure a_neq rfl rfl ?_
  refine arun_nil ?_
  refine thn_n ?_
  refine awp_cond _ rfl (fun h => ?_) (fun h => ?_)
  · refine awp_seq ?_
    refine tx ?_
    refine mP rfl rfl ?_
    refine aP rfl rfl ?_
    refine aP rfl rfl ?_
    refine arun_nil ?_
    refine awp_ret (thn_r ?_)
    refine fT (fun o => o) (.tmp _ _ _ _ rfl (.tmp _ _ _ _ rfl .nil)) ?_ ?_
    · exact rfl
    · exact trivial
  · exact absurd (by simpa using h) h0
set_option maxHeartbeats 8000000 in
theorem refShow_x (p : PE) (ok : p.OK) (hn : p.nets.length ≤ 1048576) (h0 : peE p = 0) : ∃ n L, OfP p n L ∧ Fn Tryz.prog 68 [.agg p.cells] (.tup [.row 0, .p (.v (.int .i64 0))]) [(0, .row 86 5 n L)] := by
  have hC := refPeer_s p ok
  have hal := peE_al h0
  rw [h0] at hC
  obtain ⟨n2, hn2⟩ : ∃ n : Nat, (if p.sh ≠ ⟨#[]⟩ then 2 else 1) = n := ⟨_, rfl⟩
  obtain ⟨n3, hn3⟩ : ∃ n : Nat, (if p.ep ≠ ⟨#[]⟩ then n2 + 1 else n2) = n := ⟨_, rfl⟩
  obtain ⟨n4, hn4⟩ : ∃ n : Nat, (if 0 < p.al then n3 + 1 else n3) = n := ⟨_, rfl⟩
  obtain ⟨L2, hL2⟩ : ∃ L, (if p.sh ≠ ⟨#[]⟩ then seP 4 p.key 0 0 0 ++ seP 6 p.sh 0 0 0 else seP 4 p.key 0 0 0) = L := ⟨_, rfl⟩
  obtain ⟨L3, hL3⟩ : ∃ L, (if p.ep ≠ ⟨#[]⟩ then L2 ++ seP 7 p.ep 0 0 0 else L2) = L := ⟨_, rfl⟩
  obtain ⟨L4, hL4⟩ : ∃ L, (if 0 < p.al then L3 ++ seP 8 ⟨#[]⟩ p.al 0 0 else L3) = L := ⟨_, rfl⟩
  refine ⟨n4 + p.nets.length, L4 ++ p.nets.flatMap fun n => seP 10 ⟨#[]⟩ 0 n.1 n.2, ⟨n2, n3, n4, L2, L3, L4, hn2, hn3, hn4, rfl, hL2, hL3, hL4, rfl⟩, ?_⟩
  have b2 : n2 ≤ 2 := by rw [← hn2]; split <;> omega
  have b3 : n3 ≤ 3 := by rw [← hn3]; split <;> omega
  have b4 : n4 ≤ 4 := by rw [← hn4]; split <;> omega
  obtain ⟨key, sh, ep, al, nets⟩ := p
  dsimp only at hn hn2 hn3 hn4 hL2 hL3 hL4 hal
  change Fn Tryz.prog _ [.agg [.p (.v (.string key)), .p (.v (.string sh)), .p (.v (.string ep)), .p (.v (.int .i64 al)), .p (.sl nets.length 2 (nets.flatMap ntC))]] _ _ at hC
  show Fn Tryz.prog _ [.agg [.p (.v (.string key)), .p (.v (.string sh)), .p (.v (.string ep)), .p (.v (.int .i64 al)), .p (.sl nets.length 2 (nets.flatMap ntC))]] _ _
  clear h0 ok
  have k0 : FnO Tryz.prog 112 [.p (.v (.bool true)), .agg (seA 4 key 0 0 0), .ref 5 0] [(5, .live (.box 33 [.p (.v (.slice none 0 0))])), (19004, .un), (19008, .un), (19009, .un)] [(5, .live (.box 33 [.row 19009])), (19004, .live (.box 86 (seA 4 key 0 0 0))), (19008, .live (.row 86 5 1 (seP 4 key 0 0 0))), (19009, .live (.row 86 5 1 (seP 4 key 0 0 0)))] (.tup []) :=
    (add1_s 4 key 0 0 0).renamed [(1, 5), (4, 19004), (8, 19008), (9, 19009)] rfl
  refine fn_intro Tryz.func68 rfl (Nat.le_of_ble_eq_true rfl) fun w0 A => ?_
  refine awp_seq ?_
  refine tx ?_
  refine r_run (a_box (X := .agg _) 1 rfl) rfl rfl ⟨rfl, trivial⟩ ?_
  refine aP rfl rfl ?_
  refine aP rfl rfl ?_
  refine arun_nil ?_
  refine awp_seq (awp_seq ?_)
  refine tx ?_
  refine lN Tryz.underlying49 rfl sz49 rfl rfl ⟨rfl, trivial⟩ ?_
  refine r_callS (fun n => 10 + 1000 * n) (hC) rfl rfl Tryz.func62 rfl rfl (by first | rfl | simp [AV.okInL, AV.okIn, okInL_map]) rfl rfl rfl (by first | exact trivial | exact ⟨rfl, trivial⟩ | exact ⟨rfl, rfl, trivial⟩) rfl rfl rfl ?_
  refine aP rfl rfl ?_
  refine arun_nil ?_
  refine awp_seq ?_
  refine tx ?_
  refine mP rfl rfl ?_
  refine r_pure a_neqT rfl rfl ?_
  refine arun_nil ?_
  refine thn_n ?_
  refine awp_cond _ rfl (fun h => ?_) (fun h => ?_)
  · cases h
  refine awp_skip (awp_seq ?_)
  refine tx ?_
  refine r_run (a_alloc 5 zr33 rfl) rfl rfl ⟨rfl, trivial⟩ ?_
  refine arun_nil ?_
  refine awp_seq ?_
  refine tx ?_
  refine r_pure a_makeFunc rfl rfl ?_
  refine r_pure (a_assign (r := .fn _ _)) rfl rfl ?_
  refine arun_nil ?_
  refine awp_seq ?_
  refine tx ?_
  refine r_pure (a_move (r := .fn _ _)) rfl rfl ?_
  refine fA fi49_0 rfl rfl ?_
  refine l1 Tryz.underlying9 rfl rfl rfl ⟨rfl, trivial⟩ ?_
  refine r_pure (b_build pl86 zr86 rfl rfl) rfl rfl ?_
  refine r_callO0 (k0) rfl rfl Tryz.func112 rfl rfl (by repeat (first | exact trivial | refine ⟨rfl, ?_⟩)) rfl ?_
  refine arun_nil ?_
  refine thn_n (awp_re (re_of (fun o => bif Nat.beq o 100 then 19009 else o) [(1, .ref 1 0), (5, .ref 5 0), (6, .fn 112 [.ref 5 0])] [(1, .box 49 [.p (.v (.string key)), .p (.v (.string sh)), .p (.v (.string ep)), .p (.v (.int .i64 al)), .p (.sl nets.length 2 (nets.flatMap ntC))]), (5, .box 33 [.row 100]), (100, .row 86 5 1 (seP 4 key 0 0 0))] (by repeat (first | exact trivial | refine ⟨⟨rfl, rfl⟩, ?_⟩)) (by repeat (first | exact trivial | refine ⟨⟨rfl, rfl⟩, ?_⟩)) rfl) ?_)
  refine awp_seq ?_
  refine awp_join2 (St.of [(1, .ref 1 0), (5, .ref 5 0), (6, .fn 112 [.ref 5 0])] [(1, .box 49 [.p (.v (.string key)), .p (.v (.string sh)), .p (.v (.string ep)), .p (.v (.int .i64 al)), .p (.sl nets.length 2 (nets.flatMap ntC))]), (5, .box 33 [.row 100]), (100, .row 86 5 n2 L2)]) ?_ ?_
  · by_cases h1 : sh ≠ ⟨#[]⟩
    · rw [if_pos h1] at hn2 hL2
      subst hn2 hL2
      have w1 : FnO Tryz.prog 112 [.p (.v (.bool true)), .agg (seA 6 sh 0 0 0), .ref 5 0] [(5, .live (.box 33 [.row 100])), (100, .live (.row 86 5 (1) (seP 4 key 0 0 0))), (27004, .un), (27008, .un), (27009, .un)] [(5, .live (.box 33 [.row 27009])), (100, .dead), (27004, .live (.box 86 (seA 6 sh 0 0 0))), (27008, .live (.row 86 5 1 (seP 6 sh 0 0 0))), (27009, .live (.row 86 5 (1 + 1) (seP 4 key 0 0 0 ++ seP 6 sh 0 0 0)))] (.tup []) :=
        (addU_s (1) (seP 4 key 0 0 0) ((by omega)) 6 sh 0 0 0).renamed [(1, 5), (2, 100), (4, 27004), (8, 27008), (9, 27009)] rfl
      skip
      refine tx ?_
      refine r_pure (a_move (r := .fn _ _)) rfl rfl ?_
      refine fA fi49_1 rfl rfl ?_
      refine l1 Tryz.underlying9 rfl rfl rfl ⟨rfl, trivial⟩ ?_
      refine r_pure (a_sneqV (c := true) (by simp [h1])) rfl rfl ?_
      refine fA fi49_1 rfl rfl ?_
      refine l1 Tryz.underlying9 rfl rfl rfl ⟨rfl, trivial⟩ ?_
      refine r_pure (b_build pl86 zr86 rfl rfl) rfl rfl ?_
      refine r_callO0 (w1) rfl rfl Tryz.func112 rfl rfl (by repeat (first | exact trivial | refine ⟨rfl, ?_⟩)) rfl ?_
      refine arun_nil ?_
      refine thn_n ?_
      exact re_of (fun o => bif Nat.beq o 100 then 27009 else o) _ _ (by repeat (first | exact trivial | refine ⟨⟨rfl, rfl⟩, ?_⟩)) (by repeat (first | exact trivial | refine ⟨⟨rfl, rfl⟩, ?_⟩)) rfl
    · rw [if_neg h1] at hn2 hL2
      subst hn2 hL2
      have w1 : FnO Tryz.prog 112 [.p (.v (.bool false)), .agg (seA 6 sh 0 0 0), .ref 5 0] [(27004, .un)] [(27004, .live (.box 86 (seA 6 sh 0 0 0)))] (.tup []) :=
        (addN_s 6 sh 0 0 0).renamed [(1, 5), (4, 27004)] rfl
      skip
      refine tx ?_
      refine r_pure (a_move (r := .fn _ _)) rfl rfl ?_
      refine fA fi49_1 rfl rfl ?_
      refine l1 Tryz.underlying9 rfl rfl rfl ⟨rfl, trivial⟩ ?_
      refine r_pure (a_sneqV (c := false) (by simpa using h1)) rfl rfl ?_
      refine fA fi49_1 rfl rfl ?_
      refine l1 Tryz.underlying9 rfl rfl rfl ⟨rfl, trivial⟩ ?_
      refine r_pure (b_build pl86 zr86 rfl rfl) rfl rfl ?_
      refine r_callO0 (w1) rfl rfl Tryz.func112 rfl rfl (by repeat (first | exact trivial | refine ⟨rfl, ?_⟩)) rfl ?_
      refine arun_nil ?_
      refine thn_n ?_
      exact re_of id _ _ (by repeat (first | exact trivial | refine ⟨⟨rfl, rfl⟩, ?_⟩)) (by repeat (first | exact trivial | refine ⟨⟨rfl, rfl⟩, ?_⟩)) rfl
  clear hn2 hL2
  refine awp_seq ?_
  refine awp_join2 (St.of [(1, .ref 1 0), (5, .ref 5 0), (6, .fn 112 [.ref 5 0])] [(1, .box 49 [.p (.v (.string key)), .p (.v (.string sh)), .p (.v (.string ep)), .p (.v (.int .i64 al)), .p (.sl nets.length 2 (nets.flatMap ntC))]), (5, .box 33 [.row 100]), (100, .row 86 5 n3 L3)]) ?_ ?_
  · by_cases h1 : ep ≠ ⟨#[]⟩
    · rw [if_pos h1] at hn3 hL3
      subst hn3 hL3
      have w1 : FnO Tryz.prog 112 [.p (.v (.bool true)), .agg (seA 7 ep 0 0 0), .ref 5 0] [(5, .live (.box 33 [.row 100])), (100, .live (.row 86 5 (n2) (L2))), (35004, .un), (35008, .un), (35009, .un)] [(5, .live (.box 33 [.row 35009])), (100, .dead), (35004, .live (.box 86 (seA 7 ep 0 0 0))), (35008, .live (.row 86 5 1 (seP 7 ep 0 0 0))), (35009, .live (.row 86 5 (n2 + 1) (L2 ++ seP 7 ep 0 0 0)))] (.tup []) :=
        (addU_s (n2) (L2) ((by omega)) 7 ep 0 0 0).renamed [(1, 5), (2, 100), (4, 35004), (8, 35008), (9, 35009)] rfl
      skip
      refine tx ?_
      refine r_pure (a_move (r := .fn _ _)) rfl rfl ?_
      refine fA fi49_2 rfl rfl ?_
      refine l1 Tryz.underlying9 rfl rfl rfl ⟨rfl, trivial⟩ ?_
      refine r_pure (a_sneqV (c := true) (by simp [h1])) rfl rfl ?_
      refine fA fi49_2 rfl rfl ?_
      refine l1 Tryz.underlying9 rfl rfl rfl ⟨rfl, trivial⟩ ?_
      refine r_pure (b_build pl86 zr86 rfl rfl) rfl rfl ?_
      refine r_callO0 (w1) rfl rfl Tryz.func112 rfl rfl (by repeat (first | exact trivial | refine ⟨rfl, ?_⟩)) rfl ?_
      refine arun_nil ?_
      refine thn_n ?_
      exact re_of (fun o => bif Nat.beq o 100 then 35009 else o) _ _ (by repeat (first | exact trivial | refine ⟨⟨rfl, rfl⟩, ?_⟩)) (by repeat (first | exact trivial | refine ⟨⟨rfl, rfl⟩, ?_⟩)) rfl
    · rw [if_neg h1] at hn3 hL3
      subst hn3 hL3
      have w1 : FnO Tryz.prog 112 [.p (.v (.bool false)), .agg (seA 7 ep 0 0 0), .ref 5 0] [(35004, .un)] [(35004, .live (.box 86 (seA 7 ep 0 0 0)))] (.tup []) :=
        (addN_s 7 ep 0 0 0).renamed [(1, 5), (4, 35004)] rfl
      skip
      refine tx ?_
      refine r_pure (a_move (r := .fn _ _)) rfl rfl ?_
      refine fA fi49_2 rfl rfl ?_
      refine l1 Tryz.underlying9 rfl rfl rfl ⟨rfl, trivial⟩ ?_
      refine r_pure (a_sneqV (c := false) (by simpa using h1)) rfl rfl ?_
      refine fA fi49_2 rfl rfl ?_
      refine l1 Tryz.underlying9 rfl rfl rfl ⟨rfl, trivial⟩ ?_
      refine r_pure (b_build pl86 zr86 rfl rfl) rfl rfl ?_
      refine r_callO0 (w1) rfl rfl Tryz.func112 rfl rfl (by repeat (first | exact trivial | refine ⟨rfl, ?_⟩)) rfl ?_
      refine arun_nil ?_
      refine thn_n ?_
      exact re_of id _ _ (by repeat (first | exact trivial | refine ⟨⟨rfl, rfl⟩, ?_⟩)) (by repeat (first | exact trivial | refine ⟨⟨rfl, rfl⟩, ?_⟩)) rfl
  clear hn3 hL3
  refine awp_seq ?_
  refine awp_join2 (St.of [(1, .ref 1 0), (5, .ref 5 0), (6, .fn 112 [.ref 5 0])] [(1, .box 49 [.p (.v (.string key)), .p (.v (.string sh)), .p (.v (.string ep)), .p (.v (.int .i64 al)), .p (.sl nets.length 2 (nets.flatMap ntC))]), (5, .box 33 [.row 100]), (100, .row 86 5 n4 L4)]) ?_ ?_
  · by_cases h1 : 0 < al
    · rw [if_pos h1] at hn4 hL4
      subst hn4 hL4
      have w1 : FnO Tryz.prog 112 [.p (.v (.bool true)), .agg (seA 8 ⟨#[]⟩ al 0 0), .ref 5 0] [(5, .live (.box 33 [.row 100])), (100, .live (.row 86 5 (n3) (L3))), (43004, .un), (43008, .un), (43009, .un)] [(5, .live (.box 33 [.row 43009])), (100, .dead), (43004, .live (.box 86 (seA 8 ⟨#[]⟩ al 0 0))), (43008, .live (.row 86 5 1 (seP 8 ⟨#[]⟩ al 0 0))), (43009, .live (.row 86 5 (n3 + 1) (L3 ++ seP 8 ⟨#[]⟩ al 0 0)))] (.tup []) :=
        (addU_s (n3) (L3) ((by omega)) 8 ⟨#[]⟩ al 0 0).renamed [(1, 5), (2, 100), (4, 43004), (8, 43008), (9, 43009)] rfl
      skip
      refine tx ?_
      refine r_pure (a_move (r := .fn _ _)) rfl rfl ?_
      refine fA fi49_3 rfl rfl ?_
      refine l1 Tryz.underlying3 rfl rfl rfl ⟨rfl, trivial⟩ ?_
      refine r_pure (a_neqV (c := true) (by simp; omega)) rfl rfl ?_
      refine fA fi49_3 rfl rfl ?_
      refine l1 Tryz.underlying3 rfl rfl rfl ⟨rfl, trivial⟩ ?_
      refine r_pure (b_build pl86 zr86 rfl rfl) rfl rfl ?_
      refine r_callO0 (w1) rfl rfl Tryz.func112 rfl rfl (by repeat (first | exact trivial | refine ⟨rfl, ?_⟩)) rfl ?_
      refine arun_nil ?_
      refine thn_n ?_
      exact re_of (fun o => bif Nat.beq o 100 then 43009 else o) _ _ (by repeat (first | exact trivial | refine ⟨⟨rfl, rfl⟩, ?_⟩)) (by repeat (first | exact trivial | refine ⟨⟨rfl, rfl⟩, ?_⟩)) rfl
    · rw [if_neg h1] at hn4 hL4
      subst hn4 hL4
      have w1 : FnO Tryz.prog 112 [.p (.v (.bool false)), .agg (seA 8 ⟨#[]⟩ al 0 0), .ref 5 0] [(43004, .un)] [(43004, .live (.box 86 (seA 8 ⟨#[]⟩ al 0 0)))] (.tup []) :=
        (addN_s 8 ⟨#[]⟩ al 0 0).renamed [(1, 5), (4, 43004)] rfl
      skip
      refine tx ?_
      refine r_pure (a_move (r := .fn _ _)) rfl rfl ?_
      refine fA fi49_3 rfl rfl ?_
      refine l1 Tryz.underlying3 rfl rfl rfl ⟨rfl, trivial⟩ ?_
      refine r_pure (a_neqV (c := false) (by simp; omega)) rfl rfl ?_
      refine fA fi49_3 rfl rfl ?_
      refine l1 Tryz.underlying3 rfl rfl rfl ⟨rfl, trivial⟩ ?_
      refine r_pure (b_build pl86 zr86 rfl rfl) rfl rfl ?_
      refine r_callO0 (w1) rfl rfl Tryz.func112 rfl rfl (by repeat (first | exact trivial | refine ⟨rfl, ?_⟩)) rfl ?_
      refine arun_nil ?_
      refine thn_n ?_
      exact re_of id _ _ (by repeat (first | exact trivial | refine ⟨⟨rfl, rfl⟩, ?_⟩)) (by repeat (first | exact trivial | refine ⟨⟨rfl, rfl⟩, ?_⟩)) rfl
  clear hn4 hL4
  refine awp_seq (awp_seq ?_)
  refine tx ?_
  refine fA fi49_4 rfl rfl ?_
  refine l1 Tryz.underlying47 rfl rfl rfl ⟨rfl, trivial⟩ ?_
  refine r_pure (a_lenS Tryz.underlying47) rfl rfl ?_
  refine mP rfl rfl ?_
  refine arun_nil ?_
  refine awp_block ?_
  refine awp_loopR (fun m st => ∃ i : Nat, m + i = nets.length ∧ st = St.of [(5, .ref 5 0), (6, .fn 112 [.ref 5 0]), (45, .p (.sl nets.length 2 (nets.flatMap ntC))), (46, .p (.v (.int .i64 nets.length))), (47, .p (.v (.int .i64 i)))] [(5, .box 33 [.row 100]), (100, .row 86 5 (n4 + i) (L4 ++ (nets.take i).flatMap fun n => seP 10 ⟨#[]⟩ 0 n.1 n.2))]) nets.length ?_ ?_
  · refine ⟨_, re_of id _ _ ?_ ?_ rfl, 0, by omega, rfl⟩
    · (repeat (first | exact trivial | (refine ⟨⟨(by first | rfl | (simp; done) | (simp; omega)), rfl⟩, ?_⟩)))
    · refine ⟨⟨rfl, rfl⟩, ⟨?_, rfl⟩, trivial⟩
      rw [List.take_zero, List.flatMap_nil, List.append_nil]
      rfl
  rintro m st ⟨i, hi, rfl⟩
  refine awp_seq ?_
  refine tx ?_
  refine r_pure a_lss rfl rfl ?_
  refine arun_nil ?_
  refine awp_seq ?_
  refine awp_cond _ rfl (fun h => ?_) (fun h => ?_)
  · have hlt : i < nets.length := by simp at h; omega
    clear h
    obtain ⟨q, hq⟩ : ∃ q, nets[i]? = some q := ⟨nets[i], List.getElem?_eq_getElem hlt⟩
    have hch := chunk_at (f := ntC) (k := 2) (fun _ => rfl) hq
    have hle := chunk_le (f := ntC) (k := 2) (fun _ => rfl) hlt
    obtain ⟨a, b⟩ := q
    have hpush := se_push nets i a b hq
    have hpush2 := congrArg (L4 ++ ·) hpush
    rw [← List.append_assoc] at hpush2
    generalize (L4 ++ (nets.take i).flatMap fun n => seP 10 ⟨#[]⟩ 0 n.1 n.2) = T at *
    generalize nets.flatMap ntC = L at *
    have w1 : FnO Tryz.prog 112 [.p (.v (.bool true)), .agg (seA 10 ⟨#[]⟩ 0 a b), .ref 5 0] [(5, .live (.box 33 [.row 100])), (100, .live (.row 86 5 (n4 + i) (T))), (54004, .un), (54008, .un), (54009, .un)] [(5, .live (.box 33 [.row 54009])), (100, .dead), (54004, .live (.box 86 (seA 10 ⟨#[]⟩ 0 a b))), (54008, .live (.row 86 5 1 (seP 10 ⟨#[]⟩ 0 a b))), (54009, .live (.row 86 5 (n4 + i + 1) (T ++ seP 10 ⟨#[]⟩ 0 a b)))] (.tup []) :=
      (addU_s (n4 + i) (T) ((by omega)) 10 ⟨#[]⟩ 0 a b).renamed [(1, 5), (2, 100), (4, 54004), (8, 54008), (9, 54009)] rfl
    refine awp_skip (awp_seq (awp_block (awp_seq ?_)))
    refine tx ?_
    refine r_pure (a_indexAddrS Tryz.underlying47 sz52 (by omega) (by omega) rfl) rfl rfl ?_
    refine r_pure (a_loadNp Tryz.underlying52 rfl sz52 (by first | omega | (simp; done) | (simp; omega)) (hch)) rfl rfl ?_
    refine r_run (a_alloc 8 zr52 rfl) rfl rfl ⟨rfl, trivial⟩ ?_
    refine r_run (a_storeAll (Y := .agg [.p (.v (.int .u32 a)), .p (.v (.int .i64 b))]) sz52 rfl rfl (Nat.eq_of_beq_eq_true rfl)) rfl rfl ⟨rfl, trivial⟩ ?_
    refine arun_nil ?_
    refine thn_n ?_
    refine tx ?_
    refine r_pure (a_move (r := .fn _ _)) rfl rfl ?_
    refine lN Tryz.underlying52 rfl sz52 rfl rfl ⟨rfl, trivial⟩ ?_
    refine r_pure (b_build pl86 zr86 rfl rfl) rfl rfl ?_
    refine r_callO0 (w1) rfl rfl Tryz.func112 rfl rfl (by repeat (first | exact trivial | refine ⟨rfl, ?_⟩)) rfl ?_
    refine arun_nil ?_
    refine inb_n (thn_n ?_)
    refine tx ?_
    refine r_pure (a_add (by first | exact IntWalk.i64_in _ (by omega) | rfl)) rfl rfl ?_
    refine mP rfl rfl ?_
    refine arun_nil ?_
    refine thn_n ?_
    refine ⟨m - 1, by omega, _, re_of (fun o => bif Nat.beq o 100 then 54009 else o) _ _ ?_ ?_ rfl, i + 1, by omega, rfl⟩
    · (repeat (first | exact trivial | (refine ⟨⟨(by first | rfl | (simp; done) | (simp; omega)), rfl⟩, ?_⟩)))
    · exact ⟨⟨rfl, rfl⟩, ⟨by rw [← hpush2]; rfl, rfl⟩, trivial⟩
  have hge : i = nets.length := by simp at h; omega
  clear h
  subst hge
  rw [List.take_length]
  refine awp_exit (awp_seq ?_)
  refine tx ?_
  refine l1 Tryz.underlying33 rfl rfl rfl ⟨rfl, trivial⟩ ?_
  refine r_pure (a_assign (r := .row _)) rfl rfl ?_
  refine aP rfl rfl ?_
  refine arun_nil ?_
  refine awp_ret ?_
  refine fT (fun _ => 100) (.tmp _ _ _ _ rfl (.tmp _ _ _ _ rfl .nil)) ?_ ?_
  · exact rfl
  · exact ⟨⟨rfl, rfl⟩, trivial⟩
end Go.Proofs.YtgpleldhddpcgaaGreatDoor
