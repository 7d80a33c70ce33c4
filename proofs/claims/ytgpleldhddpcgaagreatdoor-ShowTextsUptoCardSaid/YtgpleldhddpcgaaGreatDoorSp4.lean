/- show.Peer, show.All, the reference's ShowAll, over data. -/
import Derived.Test.YtgpleldhddpcgaaGreatDoorSp3
import Derived.Test.YtgpleldhddpcgaaGreatDoorCf4
--%T
namespace Go.Proofs.YtgpleldhddpcgaaGreatDoor
open Go.RowKit Go.Sort
set_option linter.unusedVariables false
set_option linter.unusedSimpArgs false
set_option maxRecDepth 100000

theorem ofPeer_s (p : PE) (hn : p.nets.length ≤ 1048576) : Fn Tryz.prog 65 [.agg p.cells] (.row 0) [(0, .row 86 5 (ofPeerL p).length ((ofPeerL p).flatMap SE.pv))] := by
  obtain ⟨n, L, h, hF⟩ := ofPeer_x p hn
  obtain ⟨rfl, rfl⟩ := h.eq
  exact hF
theorem refShow_s (p : PE) (ok : p.OK) (hn : p.nets.length ≤ 1048576) (h0 : peE p = 0) : Fn Tryz.prog 68 [.agg p.cells] (.tup [.row 0, .p (.v (.int .i64 0))]) [(0, .row 86 5 (ofPeerL p).length ((ofPeerL p).flatMap SE.pv))] := by
  obtain ⟨n, L, h, hF⟩ := refShow_x p ok hn h0
  obtain ⟨rfl, rfl⟩ := h.eq
  exact hF
/-! all settings -/
theorem cfE_ok {c : CF} (h : cfE c = 0) : 0 ≤ c.port ∧ c.ps.length ≤ 6 ∧ ∀ p ∈ c.ps, peE p = 0 := by
  unfold cfE at h
  split at h
  · rename_i h2; exact absurd h h2.2
  split at h
  · cases h
  split at h
  · cases h
  refine ⟨by omega, by omega, fun p hp => ?_⟩
  obtain ⟨i, hi, rfl⟩ := List.getElem_of_mem hp
  have h1 := fnz_zero h i hi
  unfold cfStep at h1
  rw [peG_at (List.getElem?_eq_getElem hi)] at h1
  split at h1
  · exact absurd h1 (by assumption)
  · rename_i h2; exact Decidable.not_not.1 h2
theorem ofPeerL_len {p : PE} (h : peE p = 0) : (ofPeerL p).length ≤ 12 := by
  have h8 := (peE_nets h).1
  unfold ofPeerL
  by_cases a1 : p.sh ≠ ⟨#[]⟩ <;> by_cases a2 : p.ep ≠ ⟨#[]⟩ <;> by_cases a3 : 0 < p.al <;> simp [a1, a2, a3] <;> omega
def olP (l : List PE) (i : Nat) : List SE := (l.take i).flatMap ofPeerL
theorem olP_next {l : List PE} {i : Nat} {p : PE} (h : l[i]? = some p) : olP l (i + 1) = olP l i ++ ofPeerL p := by
  obtain ⟨h1, h2⟩ := List.getElem?_eq_some_iff.1 h
  unfold olP
  rw [List.take_succ_eq_append_getElem h1, h2, List.flatMap_append]
  simp
theorem olP_len {l : List PE} (h : ∀ p ∈ l, peE p = 0) : ∀ i : Nat, i ≤ l.length → (olP l i).length ≤ 12 * i
  | 0, _ => by simp [olP]
  | i + 1, hi => by
    have hp : l[i]? = some l[i] := List.getElem?_eq_getElem (by omega)
    have h1 := olP_len h i (by omega)
    have h2 := ofPeerL_len (h _ (List.mem_of_getElem? hp))
    rw [olP_next hp, List.length_append]
    omega
def allL (c : CF) : List SE := (if c.key ≠ ⟨#[]⟩ then [⟨1, c.key, 0, 0, 0⟩] else []) ++ (if 0 < c.port then [⟨2, ⟨#[]⟩, c.port, 0, 0⟩] else []) ++ c.ps.flatMap ofPeerL
structure OfA (c : CF) (n : Nat) (L : List PV) : Prop where
  ex : ∃ n1 n2 : Nat, ∃ L1 L2 : List PV, (if c.key ≠ ⟨#[]⟩ then 1 else 0) = n1 ∧ (if 0 < c.port then n1 + 1 else n1) = n2 ∧ n = n2 + (c.ps.flatMap ofPeerL).length ∧
    (if c.key ≠ ⟨#[]⟩ then seP 1 c.key 0 0 0 else []) = L1 ∧ (if 0 < c.port then L1 ++ seP 2 ⟨#[]⟩ c.port 0 0 else L1) = L2 ∧ L = L2 ++ (c.ps.flatMap ofPeerL).flatMap SE.pv
theorem OfA.eq {c : CF} {n : Nat} {L : List PV} (h : OfA c n L) : n = (allL c).length ∧ L = (allL c).flatMap SE.pv := by
  obtain ⟨n1, n2, L1, L2, h1, h2, rfl, k1, k2, rfl⟩ := h.ex
  subst h1 h2 k1 k2
  unfold allL
  rw [List.flatMap_append, List.length_append]
  constructor
  · congr 1
    by_cases a1 : c.key ≠ ⟨#[]⟩ <;> by_cases a3 : 0 < c.port <;> simp [a1, a3]
  · congr 1
    by_cases a1 : c.key ≠ ⟨#[]⟩ <;> by_cases a3 : 0 < c.port <;> simp [a1, a3, seP, SE.pv]
theorem all_bad (c : CF) (ok : c.OK) (h0 : cfE c ≠ 0) : Fn Tryz.prog 25 [.agg c.cells] (.tup [.p (.v (.slice none 0 0)), .p (.v (.int .i64 (cfE c)))]) [] := by
  have hC := cfCheck_s c ok
  generalize cfE c = e at *
  obtain ⟨key, port, ps⟩ := c
  change Fn Tryz.prog _ [.agg [.p (.v (.string key)), .p (.v (.int .i64 port)), .p (.sl ps.length 5 (ps.flatMap PE.pv))]] _ _ at hC
  show Fn Tryz.prog _ [.agg [.p (.v (.string key)), .p (.v (.int .i64 port)), .p (.sl ps.length 5 (ps.flatMap PE.pv))]] _ _
  refine fn_intro Tryz.func25 rfl (Nat.le_of_ble_eq_true rfl) fun w0 A => ?_
  refine awp_seq ?_
  refine tx ?_
  refine r_run (a_box (X := .agg _) 1 rfl) rfl rfl ⟨rfl, trivial⟩ ?_
  refine aP rfl rfl ?_
  refine aP rfl rfl ?_
  refine arun_nil ?_
  refine awp_seq (awp_seq ?_)
  refine tx ?_
  refine lN Tryz.underlying24 rfl sz24 rfl rfl ⟨rfl, trivial⟩ ?_
  refine r_callS (fun n => 9 + 1000 * n) (hC) rfl rfl Tryz.func20 rfl rfl (by first | rfl | simp [AV.okInL, AV.okIn, okInL_map]) rfl rfl rfl (by first | exact trivial | exact ⟨rfl, trivial⟩ | exact ⟨rfl, rfl, trivial⟩) rfl rfl rfl ?_
  refine aP rfl rfl ?_
  refine arun_nil ?_
  refine awp_seq ?_
  refine tx ?_
  refine mP rfl rfl ?_
  refine r_pure a_neq rfl rfl ?_
  refine arun_nil ?_
  refine thn_n ?_
  refine awp_cond _ rfl (fun h => ?_) (fun h => ?_)
  · refine awp_seq ?_
    refine tx ?_
    refine mP rfl rfl ?_
    refine aP rfl rfl ?_
    refine aP rfl rfl ?_
    refine arun_nil ?_
    refine awp_ret (thn_r ?_)
    refine fT (fun o => o) (.tmp _ _ _ _ rfl (.tmp _ _ _ _ rfl .nil)) ?_ ?_
    · exact rfl
    · exact trivial
  · exact absurd (by simpa using h) h0
set_option maxHeartbeats 4000000 in
theorem all_x (c : CF) (ok : c.OK) (h0 : cfE c = 0) : ∃ n L, OfA c n L ∧ Fn Tryz.prog 25 [.agg c.cells] (.tup [.row 0, .p (.v (.int .i64 0))]) [(0, .row 86 5 n L)] := by
  have hC := cfCheck_s c ok
  rw [h0] at hC
  obtain ⟨hpo, hl6, hpe⟩ := cfE_ok h0
  obtain ⟨n1, hn1⟩ : ∃ n : Nat, (if c.key ≠ ⟨#[]⟩ then 1 else 0) = n := ⟨_, rfl⟩
  obtain ⟨n2, hn2⟩ : ∃ n : Nat, (if 0 < c.port then n1 + 1 else n1) = n := ⟨_, rfl⟩
  obtain ⟨L1, hL1⟩ : ∃ L, (if c.key ≠ ⟨#[]⟩ then seP 1 c.key 0 0 0 else []) = L := ⟨_, rfl⟩
  obtain ⟨L2, hL2⟩ : ∃ L, (if 0 < c.port then L1 ++ seP 2 ⟨#[]⟩ c.port 0 0 else L1) = L := ⟨_, rfl⟩
  refine ⟨n2 + (c.ps.flatMap ofPeerL).length, L2 ++ (c.ps.flatMap ofPeerL).flatMap SE.pv, ⟨n1, n2, L1, L2, hn1, hn2, rfl, hL1, hL2, rfl⟩, ?_⟩
  have b1 : n1 ≤ 1 := by rw [← hn1]; split <;> omega
  have b2 : n2 ≤ 2 := by rw [← hn2]; split <;> omega
  have z1 : L1.length = n1 * 5 := by rw [← hL1, ← hn1]; split <;> rfl
  have z2 : L2.length = n2 * 5 := by rw [← hL2, ← hn2]; split <;> simp [z1, seP]; omega
  have hall : c.ps.flatMap ofPeerL = olP c.ps c.ps.length := by unfold olP; rw [List.take_length]
  rw [hall]
  obtain ⟨key, port, ps⟩ := c
  have hok := ok.ps
  dsimp only at hn1 hn2 hL1 hL2 hpo hl6 hpe hok
  have hol := fun i => olP_len hpe i
  change Fn Tryz.prog _ [.agg [.p (.v (.string key)), .p (.v (.int .i64 port)), .p (.sl ps.length 5 (ps.flatMap PE.pv))]] _ _ at hC
  show Fn Tryz.prog _ [.agg [.p (.v (.string key)), .p (.v (.int .i64 port)), .p (.sl ps.length 5 (ps.flatMap PE.pv))]] (.tup [.row 0, .p (.v (.int .i64 0))]) [(0, .row 86 5 (n2 + (olP ps ps.length).length) (L2 ++ (olP ps ps.length).flatMap SE.pv))]
  clear ok h0 hall
  refine fn_intro Tryz.func25 rfl (Nat.le_of_ble_eq_true rfl) fun w0 A => ?_
  refine awp_seq ?_
  refine tx ?_
  refine r_run (a_box (X := .agg _) 1 rfl) rfl rfl ⟨rfl, trivial⟩ ?_
  refine aP rfl rfl ?_
  refine aP rfl rfl ?_
  refine arun_nil ?_
  refine awp_seq (awp_seq ?_)
  refine tx ?_
  refine lN Tryz.underlying24 rfl sz24 rfl rfl ⟨rfl, trivial⟩ ?_
  refine r_callS (fun n => 9 + 1000 * n) (hC) rfl rfl Tryz.func20 rfl rfl (by first | rfl | simp [AV.okInL, AV.okIn, okInL_map]) rfl rfl rfl (by first | exact trivial | exact ⟨rfl, trivial⟩ | exact ⟨rfl, rfl, trivial⟩) rfl rfl rfl ?_
  refine aP rfl rfl ?_
  refine arun_nil ?_
  refine awp_seq ?_
  refine tx ?_
  refine mP rfl rfl ?_
  refine r_pure a_neqT rfl rfl ?_
  refine arun_nil ?_
  refine thn_n ?_
  refine awp_cond _ rfl (fun h => ?_) (fun h => ?_)
  · cases h
  refine awp_skip (awp_seq ?_)
  refine tx ?_
  refine aP rfl rfl ?_
  refine arun_nil ?_
  refine thn_n (awp_re (re_nil 5 100 86 5 rfl rfl) ?_)
  refine awp_seq (awp_seq ?_)
  refine tx ?_
  refine fA fi24_0 rfl rfl ?_
  refine l1 Tryz.underlying9 rfl rfl rfl ⟨rfl, trivial⟩ ?_
  refine r_pure a_sneq rfl rfl ?_
  refine arun_nil ?_
  refine thn_n ?_
  refine awp_join2 (St.of [(1, .ref 1 0), (5, .row 100)] [(1, .box 24 [.p (.v (.string key)), .p (.v (.int .i64 port)), .p (.sl ps.length 5 (ps.flatMap PE.pv))]), (100, .row 86 5 n1 L1)]) ?_ ?_
  · skip
    refine awp_cond _ rfl (fun h => ?_) (fun h => ?_)
    · have h1 : key ≠ ⟨#[]⟩ := by simpa using h
      rw [if_pos h1] at hn1 hL1
      subst hn1 hL1
      skip
      refine tx ?_
      refine r_pure (a_move (r := .row _)) rfl rfl ?_
      refine fA fi24_0 rfl rfl ?_
      refine l1 Tryz.underlying9 rfl rfl rfl ⟨rfl, trivial⟩ ?_
      refine r_pure (b_build pl86 zr86 rfl rfl) rfl rfl ?_
      refine r_run (xs := [.agg [.p (.v (.int .i64 1)), .p (.v (.string key)), .p (.v (.int .i64 0)), .p (.v (.int .u32 0)), .p (.v (.int .i64 0))]]) (a_buildSlice (es := [.p (.v (.int .i64 1)), .p (.v (.string key)), .p (.v (.int .i64 0)), .p (.v (.int .u32 0)), .p (.v (.int .i64 0))]) (cs := [.v (.int .i64 1), .v (.string key), .v (.int .i64 0), .v (.int .u32 0), .v (.int .i64 0)]) 20 Tryz.underlying33 sz86 zc86 (Nat.le_of_ble_eq_true rfl) (Nat.le_of_ble_eq_true rfl) rfl (by kernel_rfl) (by kernel_rfl) (by kernel_rfl) (Nat.le_of_ble_eq_true rfl)) (by first | rfl | kernel_rfl) rfl ⟨rfl, trivial⟩ ?_
      refine r_run (a_append 21 Tryz.underlying33 eo86 (src_row) (by simp only [maxLen]; omega) (by omega) rfl rfl) rfl rfl ⟨rfl, rfl, rfl, trivial⟩ ?_
      refine r_pure (a_assign (r := .row _)) rfl rfl ?_
      refine arun_nil ?_
      refine thn_n ?_
      exact re_of (fun o => bif Nat.beq o 100 then 21 else o) _ _ (by repeat (first | exact trivial | refine ⟨⟨rfl, rfl⟩, ?_⟩)) (by repeat (first | exact trivial | refine ⟨⟨rfl, rfl⟩, ?_⟩)) rfl
    · have h1 : ¬ key ≠ ⟨#[]⟩ := by simpa using h
      rw [if_neg h1] at hn1 hL1
      subst hn1 hL1
      refine awp_skip (thn_n ?_)
      exact re_of id _ _ (by repeat (first | exact trivial | refine ⟨⟨rfl, rfl⟩, ?_⟩)) (by repeat (first | exact trivial | refine ⟨⟨rfl, rfl⟩, ?_⟩)) rfl
  clear hn1 hL1
  refine awp_seq (awp_seq ?_)
  refine tx ?_
  refine fA fi24_1 rfl rfl ?_
  refine l1 Tryz.underlying3 rfl rfl rfl ⟨rfl, trivial⟩ ?_
  refine r_pure a_gtr rfl rfl ?_
  refine arun_nil ?_
  refine thn_n ?_
  refine awp_join2 (St.of [(1, .ref 1 0), (5, .row 100)] [(1, .box 24 [.p (.v (.string key)), .p (.v (.int .i64 port)), .p (.sl ps.length 5 (ps.flatMap PE.pv))]), (100, .row 86 5 n2 L2)]) ?_ ?_
  · skip
    refine awp_cond _ rfl (fun h => ?_) (fun h => ?_)
    · have h1 : 0 < port := by simp at h; omega
      rw [if_pos h1] at hn2 hL2
      subst hn2 hL2
      skip
      refine tx ?_
      refine r_pure (a_move (r := .row _)) rfl rfl ?_
      refine fA fi24_1 rfl rfl ?_
      refine l1 Tryz.underlying3 rfl rfl rfl ⟨rfl, trivial⟩ ?_
      refine r_pure (b_build pl86 zr86 rfl rfl) rfl rfl ?_
      refine r_run (xs := [.agg [.p (.v (.int .i64 2)), .p (.v (.string ⟨#[]⟩)), .p (.v (.int .i64 port)), .p (.v (.int .u32 0)), .p (.v (.int .i64 0))]]) (a_buildSlice (es := [.p (.v (.int .i64 2)), .p (.v (.string ⟨#[]⟩)), .p (.v (.int .i64 port)), .p (.v (.int .u32 0)), .p (.v (.int .i64 0))]) (cs := [.v (.int .i64 2), .v (.string ⟨#[]⟩), .v (.int .i64 port), .v (.int .u32 0), .v (.int .i64 0)]) 29 Tryz.underlying33 sz86 zc86 (Nat.le_of_ble_eq_true rfl) (Nat.le_of_ble_eq_true rfl) rfl (by kernel_rfl) (by kernel_rfl) (by kernel_rfl) (Nat.le_of_ble_eq_true rfl)) (by first | rfl | kernel_rfl) rfl ⟨rfl, trivial⟩ ?_
      refine r_run (a_append 30 Tryz.underlying33 eo86 (src_row) (by simp only [maxLen]; omega) (by omega) rfl rfl) rfl rfl ⟨rfl, rfl, rfl, trivial⟩ ?_
      refine r_pure (a_assign (r := .row _)) rfl rfl ?_
      refine arun_nil ?_
      refine thn_n ?_
      exact re_of (fun o => bif Nat.beq o 100 then 30 else o) _ _ (by repeat (first | exact trivial | refine ⟨⟨rfl, rfl⟩, ?_⟩)) (by repeat (first | exact trivial | refine ⟨⟨rfl, rfl⟩, ?_⟩)) rfl
    · have h1 : ¬ 0 < port := by simp at h; omega
      rw [if_neg h1] at hn2 hL2
      subst hn2 hL2
      refine awp_skip (thn_n ?_)
      exact re_of id _ _ (by repeat (first | exact trivial | refine ⟨⟨rfl, rfl⟩, ?_⟩)) (by repeat (first | exact trivial | refine ⟨⟨rfl, rfl⟩, ?_⟩)) rfl
  clear hn2 hL2
  refine awp_seq (awp_seq ?_)
  refine tx ?_
  refine fA fi24_2 rfl rfl ?_
  refine l1 Tryz.underlying22 rfl rfl rfl ⟨rfl, trivial⟩ ?_
  refine r_pure (a_lenS Tryz.underlying22) rfl rfl ?_
  refine mP rfl rfl ?_
  refine arun_nil ?_
  refine awp_block ?_
  refine awp_loopR (fun m st => ∃ i : Nat, m + i = ps.length ∧ st = St.of [(5, .row 100), (32, .p (.sl ps.length 5 (ps.flatMap PE.pv))), (33, .p (.v (.int .i64 ps.length))), (34, .p (.v (.int .i64 i)))] [(100, .row 86 5 (n2 + (olP ps i).length) (L2 ++ (olP ps i).flatMap SE.pv))]) ps.length ?_ ?_
  · refine ⟨_, re_of id _ _ ?_ ?_ rfl, 0, by omega, rfl⟩
    · (repeat (first | exact trivial | (refine ⟨⟨(by first | rfl | (simp; done) | (simp; omega)), rfl⟩, ?_⟩)))
    · refine ⟨⟨?_, rfl⟩, trivial⟩
      rw [show olP ps 0 = [] by simp [olP], List.flatMap_nil, List.append_nil]
      rfl
  rintro m st ⟨i, hi, rfl⟩
  refine awp_seq ?_
  refine tx ?_
  refine r_pure a_lss rfl rfl ?_
  refine arun_nil ?_
  refine awp_seq ?_
  refine awp_cond _ rfl (fun h => ?_) (fun h => ?_)
  · have hlt : i < ps.length := by simp at h; omega
    clear h
    obtain ⟨p, hp⟩ : ∃ p, ps[i]? = some p := ⟨ps[i], List.getElem?_eq_getElem hlt⟩
    have hch := chunk_at (f := PE.pv) (k := 5) (fun _ => rfl) hp
    have hle := chunk_le (f := PE.pv) (k := 5) (fun _ => rfl) hlt
    have hmem := List.mem_of_getElem? hp
    obtain ⟨pok, pnl⟩ := hok p hmem
    have h0 := hpe p hmem
    have hO := ofPeer_s p pnl
    have h12 := ofPeerL_len h0
    have hnx := olP_next hp
    have hbi := hol i (by omega)
    have hTl : (L2 ++ (olP ps i).flatMap SE.pv).length = (n2 + (olP ps i).length) * 5 := by
      rw [List.length_append, z2, chunk_len (k := 5) (fun _ => rfl)]
      omega
    have hPl : ((ofPeerL p).flatMap SE.pv).length = (ofPeerL p).length * 5 := chunk_len (f := SE.pv) (k := 5) (fun _ => rfl) (ofPeerL p)
    have hn' : (olP ps (i + 1)).length = (olP ps i).length + (ofPeerL p).length := by rw [hnx, List.length_append]
    have hL' : L2 ++ (olP ps (i + 1)).flatMap SE.pv = L2 ++ (olP ps i).flatMap SE.pv ++ (ofPeerL p).flatMap SE.pv := by rw [hnx, List.flatMap_append, List.append_assoc]
    rw [show n2 + (olP ps i).length = n2 + (olP ps i).length from rfl] at *
    generalize L2 ++ (olP ps i).flatMap SE.pv = T at *
    generalize (ofPeerL p).flatMap SE.pv = PL at *
    generalize (ofPeerL p).length = pn at *
    generalize (olP ps i).length = on at *
    generalize hLL : ps.flatMap PE.pv = L at *
    refine awp_skip (awp_seq (awp_block (awp_seq ?_)))
    refine tx ?_
    refine r_pure (a_indexAddrS Tryz.underlying22 sz49 (by omega) (by omega) rfl) rfl rfl ?_
    refine r_pure (a_loadNp Tryz.underlying49 rfl sz49 (by first | omega | (simp; done) | (simp; omega)) (hch)) rfl rfl ?_
    refine r_run (a_alloc 7 zr49 rfl) rfl rfl ⟨rfl, trivial⟩ ?_
    refine r_run (a_storeAll (Y := .agg p.cells) sz49 rfl rfl (Nat.eq_of_beq_eq_true rfl)) rfl rfl ⟨rfl, trivial⟩ ?_
    refine arun_nil ?_
    refine thn_n ?_
    refine tx ?_
    refine r_pure (a_move (r := .row _)) rfl rfl ?_
    refine r_run (a_loadN Tryz.underlying49 rfl sz49 (by first | exact Nat.le_of_ble_eq_true rfl | omega | (simp only [AV.cells, List.length_map]; omega)) (show _ = p.cells from rfl)) rfl rfl ⟨rfl, trivial⟩ ?_
    refine r_callS (fun n => 40 + 1000 * n) (hO) rfl rfl Tryz.func65 rfl rfl (by first | rfl | simp [AV.okInL, AV.okIn, okInL_map]) rfl rfl rfl (by first | exact trivial | exact ⟨rfl, trivial⟩ | exact ⟨rfl, rfl, trivial⟩) rfl rfl rfl ?_
    refine r_run (a_append 41 Tryz.underlying33 eo86 (src_row) (by simp only [maxLen]; omega) (by omega) rfl rfl) rfl rfl ⟨rfl, rfl, rfl, trivial⟩ ?_
    refine r_pure (a_assign (r := .row _)) rfl rfl ?_
    refine arun_nil ?_
    refine inb_n (thn_n ?_)
    refine tx ?_
    refine r_pure (a_add (by first | exact IntWalk.i64_in _ (by omega) | rfl)) rfl rfl ?_
    refine mP rfl rfl ?_
    refine arun_nil ?_
    refine thn_n ?_
    refine ⟨m - 1, by omega, _, re_of (fun o => bif Nat.beq o 100 then 41 else o) _ _ ?_ ?_ rfl, i + 1, by omega, rfl⟩
    · (repeat (first | exact trivial | (refine ⟨⟨(by first | rfl | (simp; done) | (simp; omega)), rfl⟩, ?_⟩)))
    · exact ⟨⟨by rw [hn', hL', ← Nat.add_assoc]; rfl, rfl⟩, trivial⟩
  have hge : i = ps.length := by simp at h; omega
  clear h
  subst hge
  have hbi := hol ps.length (by omega)
  have hTl : (L2 ++ (olP ps ps.length).flatMap SE.pv).length = (n2 + (olP ps ps.length).length) * 5 := by
    rw [List.length_append, z2, chunk_len (k := 5) (fun _ => rfl)]
    omega
  generalize L2 ++ (olP ps ps.length).flatMap SE.pv = T at *
  generalize (olP ps ps.length).length = on at *
  refine awp_exit (awp_seq ?_)
  refine tx ?_
  refine r_pure (a_move (r := .row _)) rfl rfl ?_
  refine r_run (a_appendNil 44 Tryz.underlying33 eo86 (src_row) (by simp only [maxLen]; omega) (by omega)) rfl rfl ⟨rfl, rfl, trivial⟩ ?_
  refine r_pure (a_assign (r := .row _)) rfl rfl ?_
  refine aP rfl rfl ?_
  refine arun_nil ?_
  refine awp_ret ?_
  refine fT (fun _ => 44) (.tmp _ _ _ _ rfl (.tmp _ _ _ _ rfl .nil)) ?_ ?_
  · exact rfl
  · exact ⟨⟨rfl, rfl⟩, trivial⟩
theorem all_s (c : CF) (ok : c.OK) (h0 : cfE c = 0) : Fn Tryz.prog 25 [.agg c.cells] (.tup [.row 0, .p (.v (.int .i64 0))]) [(0, .row 86 5 (allL c).length ((allL c).flatMap SE.pv))] := by
  obtain ⟨n, L, h, hF⟩ := all_x c ok h0
  obtain ⟨rfl, rfl⟩ := h.eq
  exact hF
theorem refAll_bad (c : CF) (ok : c.OK) (h0 : cfE c ≠ 0) : Fn Tryz.prog 27 [.agg c.cells] (.tup [.p (.v (.slice none 0 0)), .p (.v (.int .i64 (cfE c)))]) [] := by
  have hC := refConf_s c ok
  generalize cfE c = e at *
  obtain ⟨key, port, ps⟩ := c
  change Fn Tryz.prog _ [.agg [.p (.v (.string key)), .p (.v (.int .i64 port)), .p (.sl ps.length 5 (ps.flatMap PE.pv))]] _ _ at hC
  show Fn Tryz.prog _ [.agg [.p (.v (.string key)), .p (.v (.int .i64 port)), .p (.sl ps.length 5 (ps.flatMap PE.pv))]] _ _
  refine fn_intro Tryz.func27 rfl (Nat.le_of_ble_eq_true rfl) fun w0 A => ?_
  refine awp_seq ?_
  refine tx ?_
  refine r_run (a_box (X := .agg _) 1 rfl) rfl rfl ⟨rfl, trivial⟩ ?_
  refine aP rfl rfl ?_
  refine aP rfl rfl ?_
  refine arun_nil ?_
  refine awp_seq (awp_seq ?_)
  refine tx ?_
  refine lN Tryz.underlying24 rfl sz24 rfl rfl ⟨rfl, trivial⟩ ?_
  refine r_callS (fun n => 11 + 1000 * n) (hC) rfl rfl Tryz.func22 rfl rfl (by first | rfl | simp [AV.okInL, AV.okIn, okInL_map]) rfl rfl rfl (by first | exact trivial | exact ⟨rfl, trivial⟩ | exact ⟨rfl, rfl, trivial⟩) rfl rfl rfl ?_
  refine aP rfl rfl ?_
  refine arun_nil ?_
  refine awp_seq ?_
  refine tx ?_
  refine mP rfl rfl ?_
  refine r_pure a_neq rfl rfl ?_
  refine arun_nil ?_
  refine thn_n ?_
  refine awp_cond _ rfl (fun h => ?_) (fun h => ?_)
  · refine awp_seq ?_
    refine tx ?_
    refine mP rfl rfl ?_
    refine aP rfl rfl ?_
    refine aP rfl rfl ?_
    refine arun_nil ?_
    refine awp_ret (thn_r ?_)
    refine fT (fun o => o) (.tmp _ _ _ _ rfl (.tmp _ _ _ _ rfl .nil)) ?_ ?_
    · exact rfl
    · exact trivial
  · exact absurd (by simpa using h) h0
set_option maxHeartbeats 4000000 in
theorem refAll_x (c : CF) (ok : c.OK) (h0 : cfE c = 0) : ∃ n L, OfA c n L ∧ Fn Tryz.prog 27 [.agg c.cells] (.tup [.row 0, .p (.v (.int .i64 0))]) [(0, .row 86 5 n L)] := by
  have hC := refConf_s c ok
  rw [h0] at hC
  obtain ⟨hpo, hl6, hpe⟩ := cfE_ok h0
  obtain ⟨n1, hn1⟩ : ∃ n : Nat, (if c.key ≠ ⟨#[]⟩ then 1 else 0) = n := ⟨_, rfl⟩
  obtain ⟨n2, hn2⟩ : ∃ n : Nat, (if 0 < c.port then n1 + 1 else n1) = n := ⟨_, rfl⟩
  obtain ⟨L1, hL1⟩ : ∃ L, (if c.key ≠ ⟨#[]⟩ then seP 1 c.key 0 0 0 else []) = L := ⟨_, rfl⟩
  obtain ⟨L2, hL2⟩ : ∃ L, (if 0 < c.port then L1 ++ seP 2 ⟨#[]⟩ c.port 0 0 else L1) = L := ⟨_, rfl⟩
  refine ⟨n2 + (c.ps.flatMap ofPeerL).length, L2 ++ (c.ps.flatMap ofPeerL).flatMap SE.pv, ⟨n1, n2, L1, L2, hn1, hn2, rfl, hL1, hL2, rfl⟩, ?_⟩
  have b1 : n1 ≤ 1 := by rw [← hn1]; split <;> omega
  have b2 : n2 ≤ 2 := by rw [← hn2]; split <;> omega
  have z1 : L1.length = n1 * 5 := by rw [← hL1, ← hn1]; split <;> rfl
  have z2 : L2.length = n2 * 5 := by rw [← hL2, ← hn2]; split <;> simp [z1, seP]; omega
  have hall : c.ps.flatMap ofPeerL = olP c.ps c.ps.length := by unfold olP; rw [List.take_length]
  rw [hall]
  obtain ⟨key, port, ps⟩ := c
  have hok := ok.ps
  dsimp only at hn1 hn2 hL1 hL2 hpo hl6 hpe hok
  have hol := fun i => olP_len hpe i
  change Fn Tryz.prog _ [.agg [.p (.v (.string key)), .p (.v (.int .i64 port)), .p (.sl ps.length 5 (ps.flatMap PE.pv))]] _ _ at hC
  show Fn Tryz.prog _ [.agg [.p (.v (.string key)), .p (.v (.int .i64 port)), .p (.sl ps.length 5 (ps.flatMap PE.pv))]] (.tup [.row 0, .p (.v (.int .i64 0))]) [(0, .row 86 5 (n2 + (olP ps ps.length).length) (L2 ++ (olP ps ps.length).flatMap SE.pv))]
  clear ok h0 hall
  refine fn_intro Tryz.func27 rfl (Nat.le_of_ble_eq_true rfl) fun w0 A => ?_
  refine awp_seq ?_
  refine tx ?_
  refine r_run (a_box (X := .agg _) 1 rfl) rfl rfl ⟨rfl, trivial⟩ ?_
  refine aP rfl rfl ?_
  refine aP rfl rfl ?_
  refine arun_nil ?_
  refine awp_seq (awp_seq ?_)
  refine tx ?_
  refine lN Tryz.underlying24 rfl sz24 rfl rfl ⟨rfl, trivial⟩ ?_
  refine r_callS (fun n => 11 + 1000 * n) (hC) rfl rfl Tryz.func22 rfl rfl (by first | rfl | simp [AV.okInL, AV.okIn, okInL_map]) rfl rfl rfl (by first | exact trivial | exact ⟨rfl, trivial⟩ | exact ⟨rfl, rfl, trivial⟩) rfl rfl rfl ?_
  refine aP rfl rfl ?_
  refine arun_nil ?_
  refine awp_seq ?_
  refine tx ?_
  refine mP rfl rfl ?_
  refine r_pure a_neqT rfl rfl ?_
  refine arun_nil ?_
  refine thn_n ?_
  refine awp_cond _ rfl (fun h => ?_) (fun h => ?_)
  · cases h
  refine awp_skip (awp_seq ?_)
  refine tx ?_
  refine aP rfl rfl ?_
  refine arun_nil ?_
  refine thn_n (awp_re (re_nil 5 100 86 5 rfl rfl) ?_)
  refine awp_seq (awp_seq ?_)
  refine tx ?_
  refine fA fi24_0 rfl rfl ?_
  refine l1 Tryz.underlying9 rfl rfl rfl ⟨rfl, trivial⟩ ?_
  refine r_pure a_sneq rfl rfl ?_
  refine arun_nil ?_
  refine thn_n ?_
  refine awp_join2 (St.of [(1, .ref 1 0), (5, .row 100)] [(1, .box 24 [.p (.v (.string key)), .p (.v (.int .i64 port)), .p (.sl ps.length 5 (ps.flatMap PE.pv))]), (100, .row 86 5 n1 L1)]) ?_ ?_
  · skip
    refine awp_cond _ rfl (fun h => ?_) (fun h => ?_)
    · have h1 : key ≠ ⟨#[]⟩ := by simpa using h
      rw [if_pos h1] at hn1 hL1
      subst hn1 hL1
      skip
      refine tx ?_
      refine r_pure (a_move (r := .row _)) rfl rfl ?_
      refine fA fi24_0 rfl rfl ?_
      refine l1 Tryz.underlying9 rfl rfl rfl ⟨rfl, trivial⟩ ?_
      refine r_pure (b_build pl86 zr86 rfl rfl) rfl rfl ?_
      refine r_run (xs := [.agg [.p (.v (.int .i64 1)), .p (.v (.string key)), .p (.v (.int .i64 0)), .p (.v (.int .u32 0)), .p (.v (.int .i64 0))]]) (a_buildSlice (es := [.p (.v (.int .i64 1)), .p (.v (.string key)), .p (.v (.int .i64 0)), .p (.v (.int .u32 0)), .p (.v (.int .i64 0))]) (cs := [.v (.int .i64 1), .v (.string key), .v (.int .i64 0), .v (.int .u32 0), .v (.int .i64 0)]) 22 Tryz.underlying33 sz86 zc86 (Nat.le_of_ble_eq_true rfl) (Nat.le_of_ble_eq_true rfl) rfl (by kernel_rfl) (by kernel_rfl) (by kernel_rfl) (Nat.le_of_ble_eq_true rfl)) (by first | rfl | kernel_rfl) rfl ⟨rfl, trivial⟩ ?_
      refine r_run (a_append 23 Tryz.underlying33 eo86 (src_row) (by simp only [maxLen]; omega) (by omega) rfl rfl) rfl rfl ⟨rfl, rfl, rfl, trivial⟩ ?_
      refine r_pure (a_assign (r := .row _)) rfl rfl ?_
      refine arun_nil ?_
      refine thn_n ?_
      exact re_of (fun o => bif Nat.beq o 100 then 23 else o) _ _ (by repeat (first | exact trivial | refine ⟨⟨rfl, rfl⟩, ?_⟩)) (by repeat (first | exact trivial | refine ⟨⟨rfl, rfl⟩, ?_⟩)) rfl
    · have h1 : ¬ key ≠ ⟨#[]⟩ := by simpa using h
      rw [if_neg h1] at hn1 hL1
      subst hn1 hL1
      refine awp_skip (thn_n ?_)
      exact re_of id _ _ (by repeat (first | exact trivial | refine ⟨⟨rfl, rfl⟩, ?_⟩)) (by repeat (first | exact trivial | refine ⟨⟨rfl, rfl⟩, ?_⟩)) rfl
  clear hn1 hL1
  refine awp_seq (awp_seq ?_)
  refine tx ?_
  refine fA fi24_1 rfl rfl ?_
  refine l1 Tryz.underlying3 rfl rfl rfl ⟨rfl, trivial⟩ ?_
  refine r_pure a_neq rfl rfl ?_
  refine arun_nil ?_
  refine thn_n ?_
  refine awp_join2 (St.of [(1, .ref 1 0), (5, .row 100)] [(1, .box 24 [.p (.v (.string key)), .p (.v (.int .i64 port)), .p (.sl ps.length 5 (ps.flatMap PE.pv))]), (100, .row 86 5 n2 L2)]) ?_ ?_
  · skip
    refine awp_cond _ rfl (fun h => ?_) (fun h => ?_)
    · have h1 : 0 < port := by simp at h; omega
      rw [if_pos h1] at hn2 hL2
      subst hn2 hL2
      skip
      refine tx ?_
      refine r_pure (a_move (r := .row _)) rfl rfl ?_
      refine fA fi24_1 rfl rfl ?_
      refine l1 Tryz.underlying3 rfl rfl rfl ⟨rfl, trivial⟩ ?_
      refine r_pure (b_build pl86 zr86 rfl rfl) rfl rfl ?_
      refine r_run (xs := [.agg [.p (.v (.int .i64 2)), .p (.v (.string ⟨#[]⟩)), .p (.v (.int .i64 port)), .p (.v (.int .u32 0)), .p (.v (.int .i64 0))]]) (a_buildSlice (es := [.p (.v (.int .i64 2)), .p (.v (.string ⟨#[]⟩)), .p (.v (.int .i64 port)), .p (.v (.int .u32 0)), .p (.v (.int .i64 0))]) (cs := [.v (.int .i64 2), .v (.string ⟨#[]⟩), .v (.int .i64 port), .v (.int .u32 0), .v (.int .i64 0)]) 31 Tryz.underlying33 sz86 zc86 (Nat.le_of_ble_eq_true rfl) (Nat.le_of_ble_eq_true rfl) rfl (by kernel_rfl) (by kernel_rfl) (by kernel_rfl) (Nat.le_of_ble_eq_true rfl)) (by first | rfl | kernel_rfl) rfl ⟨rfl, trivial⟩ ?_
      refine r_run (a_append 32 Tryz.underlying33 eo86 (src_row) (by simp only [maxLen]; omega) (by omega) rfl rfl) rfl rfl ⟨rfl, rfl, rfl, trivial⟩ ?_
      refine r_pure (a_assign (r := .row _)) rfl rfl ?_
      refine arun_nil ?_
      refine thn_n ?_
      exact re_of (fun o => bif Nat.beq o 100 then 32 else o) _ _ (by repeat (first | exact trivial | refine ⟨⟨rfl, rfl⟩, ?_⟩)) (by repeat (first | exact trivial | refine ⟨⟨rfl, rfl⟩, ?_⟩)) rfl
    · have h1 : ¬ 0 < port := by simp at h; omega
      rw [if_neg h1] at hn2 hL2
      subst hn2 hL2
      refine awp_skip (thn_n ?_)
      exact re_of id _ _ (by repeat (first | exact trivial | refine ⟨⟨rfl, rfl⟩, ?_⟩)) (by repeat (first | exact trivial | refine ⟨⟨rfl, rfl⟩, ?_⟩)) rfl
  clear hn2 hL2
  refine awp_seq (awp_seq ?_)
  refine tx ?_
  refine fA fi24_2 rfl rfl ?_
  refine l1 Tryz.underlying22 rfl rfl rfl ⟨rfl, trivial⟩ ?_
  refine r_pure (a_lenS Tryz.underlying22) rfl rfl ?_
  refine mP rfl rfl ?_
  refine arun_nil ?_
  refine awp_block ?_
  refine awp_loopR (fun m st => ∃ i : Nat, m + i = ps.length ∧ st = St.of [(5, .row 100), (34, .p (.sl ps.length 5 (ps.flatMap PE.pv))), (35, .p (.v (.int .i64 ps.length))), (36, .p (.v (.int .i64 i)))] [(100, .row 86 5 (n2 + (olP ps i).length) (L2 ++ (olP ps i).flatMap SE.pv))]) ps.length ?_ ?_
  · refine ⟨_, re_of id _ _ ?_ ?_ rfl, 0, by omega, rfl⟩
    · (repeat (first | exact trivial | (refine ⟨⟨(by first | rfl | (simp; done) | (simp; omega)), rfl⟩, ?_⟩)))
    · refine ⟨⟨?_, rfl⟩, trivial⟩
      rw [show olP ps 0 = [] by simp [olP], List.flatMap_nil, List.append_nil]
      rfl
  rintro m st ⟨i, hi, rfl⟩
  refine awp_seq ?_
  refine tx ?_
  refine r_pure a_lss rfl rfl ?_
  refine arun_nil ?_
  refine awp_seq ?_
  refine awp_cond _ rfl (fun h => ?_) (fun h => ?_)
  · have hlt : i < ps.length := by simp at h; omega
    clear h
    obtain ⟨p, hp⟩ : ∃ p, ps[i]? = some p := ⟨ps[i], List.getElem?_eq_getElem hlt⟩
    have hch := chunk_at (f := PE.pv) (k := 5) (fun _ => rfl) hp
    have hle := chunk_le (f := PE.pv) (k := 5) (fun _ => rfl) hlt
    have hmem := List.mem_of_getElem? hp
    obtain ⟨pok, pnl⟩ := hok p hmem
    have h0 := hpe p hmem
    have hO := refShow_s p pok pnl h0
    have h12 := ofPeerL_len h0
    have hnx := olP_next hp
    have hbi := hol i (by omega)
    have hTl : (L2 ++ (olP ps i).flatMap SE.pv).length = (n2 + (olP ps i).length) * 5 := by
      rw [List.length_append, z2, chunk_len (k := 5) (fun _ => rfl)]
      omega
    have hPl : ((ofPeerL p).flatMap SE.pv).length = (ofPeerL p).length * 5 := chunk_len (f := SE.pv) (k := 5) (fun _ => rfl) (ofPeerL p)
    have hn' : (olP ps (i + 1)).length = (olP ps i).length + (ofPeerL p).length := by rw [hnx, List.length_append]
    have hL' : L2 ++ (olP ps (i + 1)).flatMap SE.pv = L2 ++ (olP ps i).flatMap SE.pv ++ (ofPeerL p).flatMap SE.pv := by rw [hnx, List.flatMap_append, List.append_assoc]
    rw [show n2 + (olP ps i).length = n2 + (olP ps i).length from rfl] at *
    generalize L2 ++ (olP ps i).flatMap SE.pv = T at *
    generalize (ofPeerL p).flatMap SE.pv = PL at *
    generalize (ofPeerL p).length = pn at *
    generalize (olP ps i).length = on at *
    generalize hLL : ps.flatMap PE.pv = L at *
    refine awp_skip (awp_seq (awp_block (awp_seq ?_)))
    refine tx ?_
    refine r_pure (a_indexAddrS Tryz.underlying22 sz49 (by omega) (by omega) rfl) rfl rfl ?_
    refine r_pure (a_loadNp Tryz.underlying49 rfl sz49 (by first | omega | (simp; done) | (simp; omega)) (hch)) rfl rfl ?_
    refine r_run (a_alloc 7 zr49 rfl) rfl rfl ⟨rfl, trivial⟩ ?_
    refine r_run (a_storeAll (Y := .agg p.cells) sz49 rfl rfl (Nat.eq_of_beq_eq_true rfl)) rfl rfl ⟨rfl, trivial⟩ ?_
    refine arun_nil ?_
    refine awp_seq ?_
    refine tx ?_
    refine r_run (a_loadN Tryz.underlying49 rfl sz49 (by first | exact Nat.le_of_ble_eq_true rfl | omega | (simp only [AV.cells, List.length_map]; omega)) (show _ = p.cells from rfl)) rfl rfl ⟨rfl, trivial⟩ ?_
    refine r_callS (fun n => 42 + 1000 * n) (hO) rfl rfl Tryz.func68 rfl rfl (by first | rfl | simp [AV.okInL, AV.okIn, okInL_map]) rfl rfl rfl (by first | exact trivial | exact ⟨rfl, trivial⟩ | exact ⟨rfl, rfl, trivial⟩) rfl rfl rfl ?_
    refine r_pure (a_move (r := .tup _)) rfl rfl ?_
    refine r_pure (a_extract rfl) rfl rfl ?_
    refine r_pure (a_extract rfl) rfl rfl ?_
    refine r_pure (a_assign (r := .row _)) rfl rfl ?_
    refine aP rfl rfl ?_
    refine arun_nil ?_
    refine thn_n ?_
    refine tx ?_
    refine r_pure (a_move (r := .row _)) rfl rfl ?_
    refine r_pure (a_move (r := .row _)) rfl rfl ?_
    refine r_run (a_append 47 Tryz.underlying33 eo86 (src_row) (by simp only [maxLen]; omega) (by omega) rfl rfl) rfl rfl ⟨rfl, rfl, rfl, trivial⟩ ?_
    refine r_pure (a_assign (r := .row _)) rfl rfl ?_
    refine arun_nil ?_
    refine inb_n (thn_n ?_)
    refine tx ?_
    refine r_pure (a_add (by first | exact IntWalk.i64_in _ (by omega) | rfl)) rfl rfl ?_
    refine mP rfl rfl ?_
    refine arun_nil ?_
    refine thn_n ?_
    refine ⟨m - 1, by omega, _, re_of (fun o => bif Nat.beq o 100 then 47 else o) _ _ ?_ ?_ rfl, i + 1, by omega, rfl⟩
    · (repeat (first | exact trivial | (refine ⟨⟨(by first | rfl | (simp; done) | (simp; omega)), rfl⟩, ?_⟩)))
    · exact ⟨⟨by rw [hn', hL', ← Nat.add_assoc]; rfl, rfl⟩, trivial⟩
  have hge : i = ps.length := by simp at h; omega
  clear h
  subst hge
  refine awp_exit (awp_seq ?_)
  refine tx ?_
  refine r_pure (a_move (r := .row _)) rfl rfl ?_
  refine r_pure (a_assign (r := .row _)) rfl rfl ?_
  refine aP rfl rfl ?_
  refine arun_nil ?_
  refine awp_ret ?_
  refine fT (fun _ => 100) (.tmp _ _ _ _ rfl (.tmp _ _ _ _ rfl .nil)) ?_ ?_
  · exact rfl
  · exact ⟨⟨rfl, rfl⟩, trivial⟩
theorem refAll_s (c : CF) (ok : c.OK) (h0 : cfE c = 0) : Fn Tryz.prog 27 [.agg c.cells] (.tup [.row 0, .p (.v (.int .i64 0))]) [(0, .row 86 5 (allL c).length ((allL c).flatMap SE.pv))] := by
  obtain ⟨n, L, h, hF⟩ := refAll_x c ok h0
  obtain ⟨rfl, rfl⟩ := h.eq
  exact hF
end Go.Proofs.YtgpleldhddpcgaaGreatDoor
