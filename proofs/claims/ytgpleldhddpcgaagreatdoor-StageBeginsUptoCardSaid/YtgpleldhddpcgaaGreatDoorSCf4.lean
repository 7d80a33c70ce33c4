/- The reference's ConfFault, over data. -/
import Derived.Test.YtgpleldhddpcgaaGreatDoorSCf3
import Derived.Test.YtgpleldhddpcgaaGreatDoorSMq
namespace Go.Proofs.YtgpleldhddpcgaaGreatDoor
open Go.RowKit Go.Sort
set_option linter.unusedVariables false
set_option linter.unusedSimpArgs false
set_option maxRecDepth 100000
theorem key_ne' : ¬ keyE ⟨#[]⟩ = 0 := by decide +kernel
def lastP (l : List PE) (i : Nat) : ByteArray := if i = 0 then ⟨#[]⟩ else (peG l (i - 1)).key
theorem lastP_le (l : List PE) (i : Nat) (k : ByteArray) (hk : k ≠ ⟨#[]⟩) : leK k (lastP l i) = true ↔ (0 < i ∧ leK k (peG l (i - 1)).key = true) := by
  unfold lastP
  by_cases h : i = 0
  · rw [if_pos h]
    constructor
    · intro h1
      unfold leK at h1
      rw [sLt_empty] at h1
      simp at h1
      exact absurd h1 hk
    · rintro ⟨h1, _⟩
      omega
  · rw [if_neg h]
    constructor
    · exact fun h1 => ⟨by omega, h1⟩
    · exact fun h1 => h1.2
theorem netE_push (X : List NtP) (q : NtP) : netE X ++ [(netK q, Value.bool true)] = netE (X ++ [q]) := by simp [netE]
set_option maxHeartbeats 8000000 in
theorem refConf_s (c : CF) (ok : c.OK) : Fn Tryz.prog 22 [.agg c.cells] (.p (.v (.int .i64 (cfE c)))) [] := by
  obtain ⟨key, port, l⟩ := c
  obtain ⟨hn, ok⟩ := ok
  dsimp only at hn ok
  obtain ⟨E, hE⟩ : ∃ E, cfE ⟨key, port, l⟩ = E := ⟨_, rfl⟩
  rw [hE]
  unfold cfE at hE
  dsimp only at hE
  have hK := refFault_s key
  show Fn Tryz.prog _ [.agg (cfC key port l.length (l.flatMap PE.pv))] _ _
  generalize keyE key = k1 at *
  refine fn_intro Tryz.func22 rfl (Nat.le_of_ble_eq_true rfl) fun w0 A => ?_
  refine awp_seq ?_
  refine tx ?_
  refine r_run (a_box (X := .agg _) 1 rfl) rfl rfl ⟨rfl, trivial⟩ ?_
  refine aP rfl rfl ?_
  refine arun_nil ?_
  by_cases hk : key ≠ ⟨#[]⟩ ∧ k1 ≠ 0
  · rw [if_pos hk] at hE
    subst hE
    refine awp_seq (awp_seq ?_)
    refine tx ?_
    refine fA fi24_0 rfl rfl ?_
    refine l1 Tryz.underlying9 rfl rfl rfl ⟨rfl, trivial⟩ ?_
    refine r_pure (a_sneqV (c := true) (by simp [hk.1])) rfl rfl ?_
    refine mP rfl rfl ?_
    refine fA fi24_0 rfl rfl ?_
    refine l1 Tryz.underlying9 rfl rfl rfl ⟨rfl, trivial⟩ ?_
    refine r_callV (fun n => 16 + 1000 * n) (hK) rfl rfl Tryz.func61 rfl rfl (by first | rfl | simp [AV.noSl, AV.noSlL, AObj.noSl, PV.isV, bs_noSl]) (by first | rfl | simp [AV.noSl, AV.noSlL, AObj.noSl, PV.isV, bs_noSl]) rfl rfl rfl (by first | exact trivial | exact ⟨rfl, trivial⟩ | exact ⟨rfl, rfl, trivial⟩) rfl rfl rfl ?_
    refine r_pure (a_neqV (c := true) (by simp [hk.2])) rfl rfl ?_
    refine r_pure a_pickT rfl rfl ?_
    refine arun_nil ?_
    refine thn_n ?_
    refine awp_cT rfl ?_
    refine awp_seq ?_
    refine tx ?_
    refine fA fi24_0 rfl rfl ?_
    refine l1 Tryz.underlying9 rfl rfl rfl ⟨rfl, trivial⟩ ?_
    refine r_callV (fun n => 21 + 1000 * n) (hK) rfl rfl Tryz.func61 rfl rfl (by first | rfl | simp [AV.noSl, AV.noSlL, AObj.noSl, PV.isV, bs_noSl]) (by first | rfl | simp [AV.noSl, AV.noSlL, AObj.noSl, PV.isV, bs_noSl]) rfl rfl rfl (by first | exact trivial | exact ⟨rfl, trivial⟩ | exact ⟨rfl, rfl, trivial⟩) rfl rfl rfl ?_
    refine aP rfl rfl ?_
    refine arun_nil ?_
    refine awp_ret (thn_r ?_)
    refine fT (fun o => o) (.tmp _ _ _ _ rfl .nil) ?_ ?_
    · exact rfl
    · exact trivial
  rw [if_neg hk] at hE
  refine awp_seq (awp_seq ?_)
  refine awp_joinS (St.of [(1, .ref 1 0)] [(1, .box 24 (cfC key port l.length (l.flatMap PE.pv)))]) ?_ ?_
  · by_cases hk0 : key = ⟨#[]⟩
    · skip
      refine tx ?_
      refine fA fi24_0 rfl rfl ?_
      refine l1 Tryz.underlying9 rfl rfl rfl ⟨rfl, trivial⟩ ?_
      refine r_pure (a_sneqV (c := false) (by simp [hk0])) rfl rfl ?_
      refine mP rfl rfl ?_
      refine r_skipG rfl ?_
      refine r_skipG rfl ?_
      refine r_skipG rfl ?_
      refine r_skipG rfl ?_
      refine r_pure a_pickF rfl rfl ?_
      refine arun_nil ?_
      refine thn_n ?_
      refine awp_cF rfl ?_
      refine awp_skip (thn_n ?_)
      exact re_of id _ _ (by repeat (first | exact trivial | refine ⟨⟨rfl, rfl⟩, ?_⟩)) (by repeat (first | exact trivial | refine ⟨⟨rfl, rfl⟩, ?_⟩)) rfl
    · have hk1 : k1 = 0 := Decidable.not_not.1 fun e => hk ⟨hk0, e⟩
      skip
      refine tx ?_
      refine fA fi24_0 rfl rfl ?_
      refine l1 Tryz.underlying9 rfl rfl rfl ⟨rfl, trivial⟩ ?_
      refine r_pure (a_sneqV (c := true) (by simp [hk0])) rfl rfl ?_
      refine mP rfl rfl ?_
      refine fA fi24_0 rfl rfl ?_
      refine l1 Tryz.underlying9 rfl rfl rfl ⟨rfl, trivial⟩ ?_
      refine r_callV (fun n => 16 + 1000 * n) (hK) rfl rfl Tryz.func61 rfl rfl (by first | rfl | simp [AV.noSl, AV.noSlL, AObj.noSl, PV.isV, bs_noSl]) (by first | rfl | simp [AV.noSl, AV.noSlL, AObj.noSl, PV.isV, bs_noSl]) rfl rfl rfl (by first | exact trivial | exact ⟨rfl, trivial⟩ | exact ⟨rfl, rfl, trivial⟩) rfl rfl rfl ?_
      refine r_pure (a_neqV (c := false) (by simp [hk1])) rfl rfl ?_
      refine r_pure a_pickT rfl rfl ?_
      refine arun_nil ?_
      refine thn_n ?_
      refine awp_cF rfl ?_
      refine awp_skip (thn_n ?_)
      exact re_of id _ _ (by repeat (first | exact trivial | refine ⟨⟨rfl, rfl⟩, ?_⟩)) (by repeat (first | exact trivial | refine ⟨⟨rfl, rfl⟩, ?_⟩)) rfl
  clear hk hK
  refine awp_seq (awp_seq ?_)
  refine tx ?_
  refine fA fi24_1 rfl rfl ?_
  refine l1 Tryz.underlying3 rfl rfl rfl ⟨rfl, trivial⟩ ?_
  refine r_pure a_lss rfl rfl ?_
  refine mP rfl rfl ?_
  refine mb2 _ rfl rfl (fun hb => (b_fieldAddr fi24_1 rfl)) (fun _ => trivial) ?_
  refine mb2 _ rfl rfl (fun hb => (a_load1 Tryz.underlying3 rfl (by first | rfl | assumption))) (fun _ => ⟨rfl, trivial⟩) ?_
  refine mb2 _ rfl rfl (fun hb => a_gtr) (fun _ => trivial) ?_
  refine r_pure (a_or (by first | exact id | (simp; done) | grind)) rfl rfl ?_
  refine arun_nil ?_
  refine thn_n ?_
  refine awp_cond _ rfl (fun h => ?_) (fun h => ?_)
  · have h5 : port < 0 ∨ 65535 < port := by simpa using h
    rw [if_pos h5] at hE
    subst hE
    refine awp_seq ?_
    refine tx ?_
    refine aP rfl rfl ?_
    refine arun_nil ?_
    refine awp_ret (thn_r ?_)
    refine fT (fun o => o) (.tmp _ _ _ _ rfl .nil) ?_ ?_
    · exact rfl
    · exact trivial
  have h5 : ¬ (port < 0 ∨ 65535 < port) := by simp at h; omega
  clear h
  rw [if_neg h5] at hE
  refine awp_skip (awp_seq (awp_seq ?_))
  refine tx ?_
  refine fA fi24_2 rfl rfl ?_
  refine l1 Tryz.underlying22 rfl rfl rfl ⟨rfl, trivial⟩ ?_
  refine r_pure (a_lenS Tryz.underlying22) rfl rfl ?_
  refine r_pure a_gtr rfl rfl ?_
  refine arun_nil ?_
  refine thn_n ?_
  refine awp_cond _ rfl (fun h => ?_) (fun h => ?_)
  · have h6 : 6 < l.length := by simp at h; omega
    rw [if_pos h6] at hE
    subst hE
    refine awp_seq ?_
    refine tx ?_
    refine aP rfl rfl ?_
    refine arun_nil ?_
    refine awp_ret (thn_r ?_)
    refine fT (fun o => o) (.tmp _ _ _ _ rfl .nil) ?_ ?_
    · exact rfl
    · exact trivial
  have h6 : ¬ 6 < l.length := by simp at h; omega
  clear h
  rw [if_neg h6] at hE
  refine awp_skip (awp_seq ?_)
  refine tx ?_
  refine r_run (a_makeMap 34) rfl rfl ⟨rfl, trivial⟩ ?_
  refine r_pure (a_assign (r := .mp _)) rfl rfl ?_
  refine arun_nil ?_
  refine awp_seq ?_
  refine tx ?_
  refine aP rfl rfl ?_
  refine arun_nil ?_
  refine awp_seq (awp_seq ?_)
  refine tx ?_
  refine fA fi24_2 rfl rfl ?_
  refine l1 Tryz.underlying22 rfl rfl rfl ⟨rfl, trivial⟩ ?_
  refine r_pure (a_lenS Tryz.underlying22) rfl rfl ?_
  refine mP rfl rfl ?_
  refine arun_nil ?_
  refine awp_block ?_
  refine awp_loopR (fun m st => ∃ i : Nat, m + i = l.length ∧ (∀ j, j < i → cfStep key l j = 0) ∧ st = St.of [(1, .ref 1 0), (3, .mp 34), (4, .p (.v (.string (lastP l i)))), (36, .p (.sl l.length 5 (l.flatMap PE.pv))), (37, .p (.v (.int .i64 l.length))), (38, .p (.v (.int .i64 i)))] [(1, .box 24 (cfC key port l.length (l.flatMap PE.pv))), (34, .map (netE (netsB l i)))]) l.length ?_ ?_
  · refine ⟨_, re_of id _ _ ?_ ?_ rfl, 0, by omega, by omega, rfl⟩
    · (repeat (first | exact trivial | (refine ⟨⟨(by first | rfl | (simp; done) | (simp; omega)), rfl⟩, ?_⟩)))
    · exact ⟨⟨rfl, rfl⟩, ⟨rfl, rfl⟩, trivial⟩
  rintro m st ⟨i, hi, hf, rfl⟩
  refine awp_seq ?_
  refine tx ?_
  refine r_pure a_lss rfl rfl ?_
  refine arun_nil ?_
  refine awp_seq ?_
  refine awp_cond _ rfl (fun h => ?_) (fun h => ?_)
  · have hlt : i < l.length := by simp at h; omega
    clear h
    obtain ⟨p, hp⟩ : ∃ p, l[i]? = some p := ⟨l[i], List.getElem?_eq_getElem hlt⟩
    have hch := chunk_at (f := PE.pv) (k := 5) (fun _ => rfl) hp
    have hle := chunk_le (f := PE.pv) (k := 5) (fun _ => rfl) hlt
    obtain ⟨hok, hpl⟩ := ok p (List.mem_of_getElem? hp)
    have hC := refPeer_s p hok
    have hhit := @fnz_hit (cfStep key l) i l.length hf hlt
    have hst : cfStep key l i = if peE p ≠ 0 then peE p else if (0 < i ∧ leK p.key (peG l (i - 1)).key = true) ∨ p.key = key then 6 else if dupN (netsB l i) p.nets = true then 6 else 0 := by unfold cfStep; rw [peG_at hp]
    have hgood := @peE_nets p
    have hnx := netsB_next hp
    have hlN : lastP l (i + 1) = p.key := by unfold lastP; rw [if_neg (by omega), Nat.add_sub_cancel, peG_at hp]
    generalize hL : l.flatMap PE.pv = L at *
    generalize peE p = e at *
    refine awp_skip (awp_seq (awp_block (awp_seq ?_)))
    refine tx ?_
    refine r_pure (a_indexAddrS Tryz.underlying22 sz49 (by omega) (by omega) rfl) rfl rfl ?_
    refine r_pure (a_loadNp Tryz.underlying49 rfl sz49 (by first | omega | (simp; done) | (simp; omega)) (hch)) rfl rfl ?_
    refine r_run (a_alloc 6 zr49 rfl) rfl rfl ⟨rfl, trivial⟩ ?_
    refine r_run (a_storeAll (Y := .agg p.cells) sz49 rfl rfl (Nat.eq_of_beq_eq_true rfl)) rfl rfl ⟨rfl, trivial⟩ ?_
    refine arun_nil ?_
    refine awp_seq (awp_seq ?_)
    refine tx ?_
    refine r_run (a_loadN Tryz.underlying49 rfl sz49 (by first | exact Nat.le_of_ble_eq_true rfl | omega | (simp only [AV.cells, List.length_map]; omega)) (show _ = p.cells from rfl)) rfl rfl ⟨rfl, trivial⟩ ?_
    refine r_callS (fun n => 43 + 1000 * n) (hC) rfl rfl Tryz.func62 rfl rfl (by first | rfl | simp [AV.okInL, AV.okIn, okInL_map]) rfl rfl rfl (by first | exact trivial | exact ⟨rfl, trivial⟩ | exact ⟨rfl, rfl, trivial⟩) rfl rfl rfl ?_
    refine aP rfl rfl ?_
    refine arun_nil ?_
    refine awp_seq ?_
    refine tx ?_
    refine mP rfl rfl ?_
    refine r_pure a_neq rfl rfl ?_
    refine arun_nil ?_
    refine thn_n ?_
    refine awp_cond _ rfl (fun h => ?_) (fun h => ?_)
    · have h7 : e ≠ 0 := by simpa using h
      rw [if_pos h7] at hst
      rw [hhit (by rw [hst]; exact h7), hst] at hE
      subst hE
      refine awp_seq ?_
      refine tx ?_
      refine mP rfl rfl ?_
      refine aP rfl rfl ?_
      refine arun_nil ?_
      refine awp_ret (thn_r (inb_r (thn_r (thn_r (inb_r (thn_r ?_))))))
      refine fT (fun o => o) (.tmp _ _ _ _ rfl .nil) ?_ ?_
      · exact rfl
      · exact trivial
    have h7 : e = 0 := by simpa using h
    clear h
    rw [if_neg (by simp [h7])] at hst
    obtain ⟨hn8, hkey⟩ := hgood h7
    have hkne : p.key ≠ ⟨#[]⟩ := fun e => key_ne' (by rw [e] at hkey; exact hkey)
    simp only [← lastP_le l i p.key hkne] at hst
    generalize hLK : lastP l i = lk at *
    by_cases hlk : leK p.key lk = true
    · rw [if_pos (.inl hlk)] at hst
      rw [hhit (by rw [hst]; decide), hst] at hE
      subst hE
      refine awp_skip (awp_seq (awp_seq ?_))
      refine tx ?_
      refine fA fi49_0 rfl rfl ?_
      refine l1 Tryz.underlying9 rfl rfl rfl ⟨rfl, trivial⟩ ?_
      refine mP rfl rfl ?_
      refine r_pure (a_sleqV (c := true) (hlk)) rfl rfl ?_
      refine mP rfl rfl ?_
      refine r_skipG rfl ?_
      refine r_skipG rfl ?_
      refine r_skipG rfl ?_
      refine r_skipG rfl ?_
      refine r_skipG rfl ?_
      refine r_pure a_pickT rfl rfl ?_
      refine arun_nil ?_
      refine thn_n ?_
      refine awp_cT rfl ?_
      refine awp_seq ?_
      refine tx ?_
      refine aP rfl rfl ?_
      refine arun_nil ?_
      refine awp_ret (thn_r (inb_r (thn_r (thn_r (inb_r (thn_r ?_))))))
      refine fT (fun o => o) (.tmp _ _ _ _ rfl .nil) ?_ ?_
      · exact rfl
      · exact trivial
    by_cases hkk : p.key = key
    · rw [if_pos (.inr hkk)] at hst
      rw [hhit (by rw [hst]; decide), hst] at hE
      subst hE
      refine awp_skip (awp_seq (awp_seq ?_))
      refine tx ?_
      refine fA fi49_0 rfl rfl ?_
      refine l1 Tryz.underlying9 rfl rfl rfl ⟨rfl, trivial⟩ ?_
      refine mP rfl rfl ?_
      refine r_pure (a_sleqV (c := false) (by simpa using hlk)) rfl rfl ?_
      refine mP rfl rfl ?_
      refine fA fi49_0 rfl rfl ?_
      refine l1 Tryz.underlying9 rfl rfl rfl ⟨rfl, trivial⟩ ?_
      refine fA fi24_0 rfl rfl ?_
      refine l1 Tryz.underlying9 rfl rfl rfl ⟨rfl, trivial⟩ ?_
      refine r_pure (a_seqlV (c := true) (decide_eq_true hkk)) rfl rfl ?_
      refine r_pure a_pickF rfl rfl ?_
      refine arun_nil ?_
      refine thn_n ?_
      refine awp_cT rfl ?_
      refine awp_seq ?_
      refine tx ?_
      refine aP rfl rfl ?_
      refine arun_nil ?_
      refine awp_ret (thn_r (inb_r (thn_r (thn_r (inb_r (thn_r ?_))))))
      refine fT (fun o => o) (.tmp _ _ _ _ rfl .nil) ?_ ?_
      · exact rfl
      · exact trivial
    rw [if_neg (by simp [hlk, hkk])] at hst
    refine awp_skip (awp_seq (awp_seq ?_))
    refine tx ?_
    refine fA fi49_0 rfl rfl ?_
    refine l1 Tryz.underlying9 rfl rfl rfl ⟨rfl, trivial⟩ ?_
    refine mP rfl rfl ?_
    refine r_pure (a_sleqV (c := false) (by simpa using hlk)) rfl rfl ?_
    refine mP rfl rfl ?_
    refine fA fi49_0 rfl rfl ?_
    refine l1 Tryz.underlying9 rfl rfl rfl ⟨rfl, trivial⟩ ?_
    refine fA fi24_0 rfl rfl ?_
    refine l1 Tryz.underlying9 rfl rfl rfl ⟨rfl, trivial⟩ ?_
    refine r_pure (a_seqlV (c := false) (decide_eq_false hkk)) rfl rfl ?_
    refine r_pure a_pickF rfl rfl ?_
    refine arun_nil ?_
    refine thn_n ?_
    refine awp_cF rfl ?_
    obtain ⟨DD, hDD⟩ : ∃ b, dupN (netsB l i) p.nets = b := ⟨_, rfl⟩
    rw [hDD] at hst
    refine awp_skip (awp_seq ?_)
    refine tx ?_
    refine fA fi49_0 rfl rfl ?_
    refine l1 Tryz.underlying9 rfl rfl rfl ⟨rfl, trivial⟩ ?_
    refine aP rfl rfl ?_
    refine arun_nil ?_
    refine awp_seq ?_
    refine tx ?_
    refine fA fi49_4 rfl rfl ?_
    refine l1 Tryz.underlying47 rfl rfl rfl ⟨rfl, trivial⟩ ?_
    refine r_pure (a_lenS Tryz.underlying47) rfl rfl ?_
    refine mP rfl rfl ?_
    refine arun_nil ?_
    refine awp_block ?_
    refine awp_loopR (fun m' st => ∃ j : Nat, m' + j = p.nets.length ∧ ∃ X : List NtP, DD = dupN X (p.nets.drop j) ∧ X = netsB l i ++ p.nets.take j ∧ st = St.of [(1, .ref 1 0), (3, .mp 34), (4, .p (.v (.string p.key))), (36, .p (.sl l.length 5 L)), (37, .p (.v (.int .i64 l.length))), (38, .p (.v (.int .i64 i))), (61, .p (.sl p.nets.length 2 (p.nets.flatMap ntC))), (62, .p (.v (.int .i64 p.nets.length))), (63, .p (.v (.int .i64 j)))] [(1, .box 24 (cfC key port l.length L)), (34, .map (netE X))]) p.nets.length ?_ ?_
    · refine ⟨_, re_of id _ _ ?_ ?_ rfl, 0, by omega, netsB l i, by rw [List.drop_zero]; exact hDD.symm, by simp, rfl⟩
      · (repeat (first | exact trivial | (refine ⟨⟨(by first | rfl | (simp; done) | (simp; omega)), rfl⟩, ?_⟩)))
      · exact ⟨⟨rfl, rfl⟩, ⟨rfl, rfl⟩, trivial⟩
    rintro m' st ⟨j, hj, X, hdp, hXe, rfl⟩
    refine awp_seq ?_
    refine tx ?_
    refine r_pure a_lss rfl rfl ?_
    refine arun_nil ?_
    refine awp_seq ?_
    refine awp_cond _ rfl (fun h => ?_) (fun h => ?_)
    · have hlj : j < p.nets.length := by simp at h; omega
      clear h
      obtain ⟨q, hq⟩ : ∃ q, p.nets[j]? = some q := ⟨p.nets[j], List.getElem?_eq_getElem hlj⟩
      have hch2 := chunk_at (f := ntC) (k := 2) (fun _ => rfl) hq
      have hle2 := chunk_le (f := ntC) (k := 2) (fun _ => rfl) hlj
      have hdr : p.nets.drop j = q :: p.nets.drop (j + 1) := by
        obtain ⟨q1, q2⟩ := List.getElem?_eq_some_iff.1 hq
        rw [List.drop_eq_getElem_cons q1, q2]
      have htk : p.nets.take (j + 1) = p.nets.take j ++ [q] := by
        obtain ⟨q1, q2⟩ := List.getElem?_eq_some_iff.1 hq
        rw [List.take_succ_eq_append_getElem q1, q2]
      rw [hdr, dupN] at hdp
      obtain ⟨qa, qb⟩ := q
      have hpush := netE_push X (qa, qb)
      have hgot := atN_got (qa, qb) X 0
      generalize hNL : p.nets.flatMap ntC = NL at *
      refine awp_skip (awp_seq (awp_block (awp_seq ?_)))
      refine tx ?_
      refine r_pure (a_indexAddrS Tryz.underlying47 sz52 (by omega) (by omega) rfl) rfl rfl ?_
      refine r_pure (a_loadNp Tryz.underlying52 rfl sz52 (by first | omega | (simp; done) | (simp; omega)) (hch2)) rfl rfl ?_
      refine r_run (a_alloc 9 zr52 rfl) rfl rfl ⟨rfl, trivial⟩ ?_
      refine r_run (a_storeAll (Y := .agg [.p (.v (.int .u32 qa)), .p (.v (.int .i64 qb))]) sz52 rfl rfl (Nat.eq_of_beq_eq_true rfl)) rfl rfl ⟨rfl, trivial⟩ ?_
      refine arun_nil ?_
      by_cases hm : (qa, qb) ∈ X
      · rw [show (decide ((qa, qb) ∈ X) || dupN (X ++ [(qa, qb)]) (p.nets.drop (j + 1))) = true by simp [hm]] at hdp
        rw [if_pos hdp] at hst
        rw [hhit (by rw [hst]; decide), hst] at hE
        subst hE
        rw [decide_eq_true hm] at hgot
        refine awp_seq (awp_seq ?_)
        refine tx ?_
        refine r_pure (a_move (r := .mp _)) rfl rfl ?_
        refine lN Tryz.underlying52 rfl sz52 rfl rfl ⟨rfl, trivial⟩ ?_
        refine r_run (a_lookupF Tryz.underlying104 (netX (qa, qb)) (netCK _) zr4 (netFK (qa, qb) X) hgot rfl) rfl rfl ⟨rfl, trivial⟩ ?_
        refine arun_nil ?_
        refine thn_n ?_
        refine awp_cT rfl ?_
        refine awp_seq ?_
        refine tx ?_
        refine aP rfl rfl ?_
        refine arun_nil ?_
        (repeat (first | refine awp_seq ?_ | refine awp_block ?_ | refine awp_skip ?_ | refine awp_ret ?_ | refine awp_exit ?_ | refine thn_n ?_ | refine thn_r ?_ | refine thn_x ?_ | refine inb_n ?_ | refine inb_r ?_ | refine inb_x ?_ | refine inb_y rfl ?_))
        refine fT (fun o => o) (.tmp _ _ _ _ rfl .nil) ?_ ?_
        · exact rfl
        · exact trivial
      · rw [show (decide ((qa, qb) ∈ X) || dupN (X ++ [(qa, qb)]) (p.nets.drop (j + 1))) = dupN (X ++ [(qa, qb)]) (p.nets.drop (j + 1)) by simp [hm]] at hdp
        rw [decide_eq_false hm] at hgot
        refine awp_seq (awp_seq ?_)
        refine tx ?_
        refine r_pure (a_move (r := .mp _)) rfl rfl ?_
        refine lN Tryz.underlying52 rfl sz52 rfl rfl ⟨rfl, trivial⟩ ?_
        refine r_run (a_lookupF Tryz.underlying104 (netX (qa, qb)) (netCK _) zr4 (netFK (qa, qb) X) hgot rfl) rfl rfl ⟨rfl, trivial⟩ ?_
        refine arun_nil ?_
        refine thn_n ?_
        refine awp_cF rfl ?_
        refine awp_skip (thn_n ?_)
        refine tx ?_
        refine r_pure (a_move (r := .mp _)) rfl rfl ?_
        refine lN Tryz.underlying52 rfl sz52 rfl rfl ⟨rfl, trivial⟩ ?_
        refine r_run (a_mapUpdateF Tryz.underlying104 (netX (qa, qb)) (netCK _) (netFN hm)) rfl rfl ⟨rfl, trivial⟩ ?_
        refine arun_nil ?_
        refine inb_n (thn_n ?_)
        refine tx ?_
        refine r_pure (a_add (by first | exact IntWalk.i64_in _ (by omega) | rfl)) rfl rfl ?_
        refine mP rfl rfl ?_
        refine arun_nil ?_
        refine thn_n ?_
        refine ⟨m' - 1, by omega, _, re_of id _ _ ?_ ?_ rfl, j + 1, by omega, X ++ [(qa, qb)], hdp, by rw [htk, ← List.append_assoc, hXe], rfl⟩
        · (repeat (first | exact trivial | (refine ⟨⟨(by first | rfl | (simp; done) | (simp; omega)), rfl⟩, ?_⟩)))
        · exact ⟨⟨rfl, rfl⟩, ⟨congrArg (fun x => Slot.live (AObj.map x)) hpush, rfl⟩, trivial⟩
    have hge : j = p.nets.length := by simp at h; omega
    clear h
    subst hge
    rw [List.take_length] at hXe
    have hz : dupN X (p.nets.drop p.nets.length) = false := by rw [List.drop_length]; rfl
    rw [hz] at hdp
    rw [if_neg (by rw [hdp]; decide)] at hst
    refine awp_exit (thn_x (thn_x (inb_x (inb_n (thn_n ?_)))))
    refine tx ?_
    refine r_pure (a_add (by first | exact IntWalk.i64_in _ (by omega) | rfl)) rfl rfl ?_
    refine mP rfl rfl ?_
    refine arun_nil ?_
    refine thn_n ?_
    refine ⟨m - 1, by omega, _, re_of id _ _ ?_ ?_ rfl, i + 1, by omega, fun q hq => ?_, rfl⟩
    · refine ⟨⟨rfl, rfl⟩, ⟨rfl, rfl⟩, ⟨?_, rfl⟩, ⟨rfl, rfl⟩, ⟨rfl, rfl⟩, ⟨rfl, rfl⟩, trivial⟩
      rw [hlN]
      rfl
    · refine ⟨⟨rfl, rfl⟩, ⟨?_, rfl⟩, trivial⟩
      rw [hnx, ← hXe]
      rfl
    · by_cases eq : q = i
      · rw [eq]; exact hst
      · exact hf q (by omega)
  have hge : i = l.length := by simp at h; omega
  clear h
  subst hge
  rw [fnz_ok hf] at hE
  subst hE
  refine awp_exit (awp_seq ?_)
  refine tx ?_
  refine aP rfl rfl ?_
  refine arun_nil ?_
  refine awp_ret ?_
  refine fT (fun o => o) (.tmp _ _ _ _ rfl .nil) ?_ ?_
  · exact rfl
  · exact trivial
end Go.Proofs.YtgpleldhddpcgaaGreatDoor
