/- show.Text, the reference's ShowText, the law ShowTexts, over data. -/
import Derived.Test.YtgpleldhddpcgaaGreatDoorSp4
import Derived.Test.YtgpleldhddpcgaaGreatDoorBt5
--%T
namespace Go.Proofs.YtgpleldhddpcgaaGreatDoor
open Go.RowKit Go.Sort
set_option linter.unusedVariables false
set_option linter.unusedSimpArgs false
set_option maxRecDepth 100000

theorem keyE_size {s : ByteArray} (h : keyE s = 0) : s.size < 4294967281 := by
  unfold keyE at h
  split at h
  · omega
  · cases h
theorem peE_facts {p : PE} (h : peE p = 0) : keyE p.key = 0 ∧ (p.sh = ⟨#[]⟩ ∨ keyE p.sh = 0) ∧ 0 ≤ p.al ∧ p.al ≤ 65535 := by
  unfold peE at h
  split at h
  · exact absurd h (by assumption)
  rename_i h1
  split at h
  · rename_i h2; exact absurd h h2.2
  rename_i h2
  split at h
  · cases h
  split at h
  · rename_i h3; exact absurd h h3.2
  split at h
  · cases h
  refine ⟨Decidable.not_not.1 h1, ?_, by omega, by omega⟩
  by_cases hs : p.sh = ⟨#[]⟩
  · exact .inl hs
  · exact .inr (Decidable.not_not.1 fun e => h2 ⟨hs, e⟩)
theorem SE.ok_of {k : Int} {t : ByteArray} {n a b : Int} (h1 : t.size < 4294967281) (h2 : 0 ≤ n) (h3 : n ≤ 65535) (h4 : 0 ≤ a) (h5 : a < 4294967296) : (⟨k, t, n, a, b⟩ : SE).OK :=
  ⟨h1, by show (-9223372036854775808 : Int) ≤ n; omega, by show n ≤ (9223372036854775807 : Int); omega, h4, h5⟩
theorem ofPeerL_ok {p : PE} (ok : p.OK) (h : peE p = 0) : ∀ s ∈ ofPeerL p, s.OK := by
  obtain ⟨h1, h2, h3, h4⟩ := peE_facts h
  have hz : (ByteArray.mk #[]).size < 4294967281 := by decide
  have hsh : p.sh.size < 4294967281 := by
    rcases h2 with e | e
    · rw [e]; exact hz
    · exact keyE_size e
  intro s hs
  unfold ofPeerL at hs
  simp only [List.mem_append, or_assoc] at hs
  rcases hs with hs | hs | hs | hs | hs
  · simp at hs; subst hs
    exact SE.ok_of (keyE_size h1) (by omega) (by omega) (by omega) (by omega)
  · split at hs
    · simp at hs; subst hs
      exact SE.ok_of hsh (by omega) (by omega) (by omega) (by omega)
    · cases hs
  · split at hs
    · simp at hs; subst hs
      exact SE.ok_of ok.ep (by omega) (by omega) (by omega) (by omega)
    · cases hs
  · split at hs
    · simp at hs; subst hs
      exact SE.ok_of hz h3 h4 (by omega) (by omega)
    · cases hs
  · obtain ⟨n, hn, rfl⟩ := List.mem_map.1 hs
    obtain ⟨n0, n1⟩ := ok.nets n hn
    exact SE.ok_of hz (by omega) (by omega) n0 n1
theorem allL_ok {c : CF} (ok : c.OK) (h : cfE c = 0) : ∀ s ∈ allL c, s.OK := by
  obtain ⟨hp, _, hpe⟩ := cfE_ok h
  have hport : c.port ≤ 65535 ∧ (c.key = ⟨#[]⟩ ∨ keyE c.key = 0) := by
    unfold cfE at h
    split at h
    · rename_i h2; exact absurd h h2.2
    rename_i h2
    split at h
    · cases h
    refine ⟨by omega, ?_⟩
    by_cases hs : c.key = ⟨#[]⟩
    · exact .inl hs
    · exact .inr (Decidable.not_not.1 fun e => h2 ⟨hs, e⟩)
  have hz : (ByteArray.mk #[]).size < 4294967281 := by decide
  have hk : c.key.size < 4294967281 := by
    rcases hport.2 with e | e
    · rw [e]; exact hz
    · exact keyE_size e
  intro s hs
  unfold allL at hs
  simp only [List.mem_append, or_assoc] at hs
  rcases hs with hs | hs | hs
  · split at hs
    · simp at hs; subst hs
      exact SE.ok_of hk (by omega) (by omega) (by omega) (by omega)
    · cases hs
  · split at hs
    · simp at hs; subst hs
      exact SE.ok_of hz hp hport.1 (by omega) (by omega)
    · cases hs
  · obtain ⟨p, hm, hs⟩ := List.mem_flatMap.1 hs
    exact ofPeerL_ok (ok.ps p hm).1 (hpe p hm) s hs
theorem allL_few {c : CF} (h : cfE c = 0) : (allL c).length ≤ 1048576 := by
  obtain ⟨_, h6, hpe⟩ := cfE_ok h
  have := olP_len hpe c.ps.length (Nat.le_refl _)
  unfold olP at this
  rw [List.take_length] at this
  unfold allL
  rw [List.length_append, List.length_append]
  have h1 : (if c.key ≠ ⟨#[]⟩ then [(⟨1, c.key, 0, 0, 0⟩ : SE)] else []).length ≤ 1 := by split <;> simp
  have h2 : (if 0 < c.port then [(⟨2, ⟨#[]⟩, c.port, 0, 0⟩ : SE)] else []).length ≤ 1 := by split <;> simp
  omega
theorem psR_two (l : List SE) : ∃ (s : ByteArray) (e : Int), psR l = .tup [.p (.v (.string s)), .p (.v (.int .i64 e))] := by
  unfold psR jV
  split <;> exact ⟨_, _, rfl⟩
theorem text_bad (c : CF) (ok : c.OK) (h0 : cfE c ≠ 0) : Fn Tryz.prog 10 [.agg c.cells] (.tup [.p (.v (.string ⟨#[]⟩)), .p (.v (.int .i64 (cfE c)))]) [] := by
  have hC := all_bad c ok h0
  generalize cfE c = e at *
  obtain ⟨key, port, ps⟩ := c
  change Fn Tryz.prog _ [.agg [.p (.v (.string key)), .p (.v (.int .i64 port)), .p (.sl ps.length 5 (ps.flatMap PE.pv))]] _ _ at hC
  show Fn Tryz.prog _ [.agg [.p (.v (.string key)), .p (.v (.int .i64 port)), .p (.sl ps.length 5 (ps.flatMap PE.pv))]] _ _
  refine fn_intro Tryz.func10 rfl (Nat.le_of_ble_eq_true rfl) fun w0 A => ?_
  refine awp_seq ?_
  refine tx ?_
  refine r_run (a_box (X := .agg _) 1 rfl) rfl rfl ⟨rfl, trivial⟩ ?_
  refine aP rfl rfl ?_
  refine aP rfl rfl ?_
  refine arun_nil ?_
  refine awp_seq ?_
  refine tx ?_
  refine lN Tryz.underlying24 rfl sz24 rfl rfl ⟨rfl, trivial⟩ ?_
  refine r_callS (fun n => 8 + 1000 * n) (hC) rfl rfl Tryz.func25 rfl rfl (by first | rfl | simp [AV.okInL, AV.okIn, okInL_map]) rfl rfl rfl (by first | exact trivial | exact ⟨rfl, trivial⟩ | exact ⟨rfl, rfl, trivial⟩) rfl rfl rfl ?_
  refine r_pure (a_move (r := .tup _)) rfl rfl ?_
  refine r_pure (a_extract rfl) rfl rfl ?_
  refine r_pure (a_extract rfl) rfl rfl ?_
  refine aP rfl rfl ?_
  refine aP rfl rfl ?_
  refine arun_nil ?_
  refine awp_seq (awp_seq ?_)
  refine tx ?_
  refine mP rfl rfl ?_
  refine r_pure a_neq rfl rfl ?_
  refine arun_nil ?_
  refine thn_n ?_
  refine awp_cond _ rfl (fun h => ?_) (fun h => ?_)
  · refine awp_seq ?_
    refine tx ?_
    refine mP rfl rfl ?_
    refine aP rfl rfl ?_
    refine aP rfl rfl ?_
    refine arun_nil ?_
    refine awp_ret (thn_r ?_)
    refine fT (fun o => o) (.tmp _ _ _ _ rfl (.tmp _ _ _ _ rfl .nil)) ?_ ?_
    · exact rfl
    · exact trivial
  · exact absurd (by simpa using h) h0
theorem text_s (c : CF) (ok : c.OK) (h0 : cfE c = 0) : Fn Tryz.prog 10 [.agg c.cells] (psR (allL c)) [] := by
  have hC := all_s c ok h0
  have hP := print_s (allL c) (allL_ok ok h0) (allL_few h0)
  obtain ⟨s, e, hR⟩ := psR_two (allL c)
  rw [hR] at hP ⊢
  clear hR
  generalize (allL c).flatMap SE.pv = AL at *
  generalize (allL c).length = an at *
  clear ok h0
  obtain ⟨key, port, ps⟩ := c
  change Fn Tryz.prog _ [.agg [.p (.v (.string key)), .p (.v (.int .i64 port)), .p (.sl ps.length 5 (ps.flatMap PE.pv))]] _ _ at hC
  show Fn Tryz.prog _ [.agg [.p (.v (.string key)), .p (.v (.int .i64 port)), .p (.sl ps.length 5 (ps.flatMap PE.pv))]] _ _
  refine fn_intro Tryz.func10 rfl (Nat.le_of_ble_eq_true rfl) fun w0 A => ?_
  refine awp_seq ?_
  refine tx ?_
  refine r_run (a_box (X := .agg _) 1 rfl) rfl rfl ⟨rfl, trivial⟩ ?_
  refine aP rfl rfl ?_
  refine aP rfl rfl ?_
  refine arun_nil ?_
  refine awp_seq ?_
  refine tx ?_
  refine lN Tryz.underlying24 rfl sz24 rfl rfl ⟨rfl, trivial⟩ ?_
  refine r_callS (fun n => 8 + 1000 * n) (hC) rfl rfl Tryz.func25 rfl rfl (by first | rfl | simp [AV.okInL, AV.okIn, okInL_map]) rfl rfl rfl (by first | exact trivial | exact ⟨rfl, trivial⟩ | exact ⟨rfl, rfl, trivial⟩) rfl rfl rfl ?_
  refine r_pure (a_move (r := .tup _)) rfl rfl ?_
  refine r_pure (a_extract rfl) rfl rfl ?_
  refine r_pure (a_extract rfl) rfl rfl ?_
  refine r_pure (a_assign (r := .row _)) rfl rfl ?_
  refine aP rfl rfl ?_
  refine arun_nil ?_
  refine awp_seq (awp_seq ?_)
  refine tx ?_
  refine mP rfl rfl ?_
  refine r_pure a_neqT rfl rfl ?_
  refine arun_nil ?_
  refine thn_n ?_
  refine awp_cond _ rfl (fun h => ?_) (fun h => ?_)
  · cases h
  refine awp_skip (awp_seq ?_)
  refine tx ?_
  refine r_pure (a_move (r := .row _)) rfl rfl ?_
  refine r_callV (fun n => 15 + 1000 * n) (hP) rfl rfl Tryz.func26 rfl rfl (by first | rfl | simp [AV.noSl, AV.noSlL, AObj.noSl, PV.isV, bs_noSl]) (by first | rfl | simp [AV.noSl, AV.noSlL, AObj.noSl, PV.isV, bs_noSl]) rfl rfl rfl (by first | exact trivial | exact ⟨rfl, trivial⟩ | exact ⟨rfl, rfl, trivial⟩) rfl rfl rfl ?_
  refine r_pure (a_extract rfl) rfl rfl ?_
  refine r_pure (a_extract rfl) rfl rfl ?_
  refine aP rfl rfl ?_
  refine aP rfl rfl ?_
  refine arun_nil ?_
  refine awp_ret ?_
  refine fT (fun o => o) (.tmp _ _ _ _ rfl (.tmp _ _ _ _ rfl .nil)) ?_ ?_
  · exact rfl
  · exact trivial
theorem refText_bad (c : CF) (ok : c.OK) (h0 : cfE c ≠ 0) : Fn Tryz.prog 11 [.agg c.cells] (.tup [.p (.v (.string ⟨#[]⟩)), .p (.v (.int .i64 (cfE c)))]) [] := by
  have hC := refAll_bad c ok h0
  generalize cfE c = e at *
  obtain ⟨key, port, ps⟩ := c
  change Fn Tryz.prog _ [.agg [.p (.v (.string key)), .p (.v (.int .i64 port)), .p (.sl ps.length 5 (ps.flatMap PE.pv))]] _ _ at hC
  show Fn Tryz.prog _ [.agg [.p (.v (.string key)), .p (.v (.int .i64 port)), .p (.sl ps.length 5 (ps.flatMap PE.pv))]] _ _
  refine fn_intro Tryz.func11 rfl (Nat.le_of_ble_eq_true rfl) fun w0 A => ?_
  refine awp_seq ?_
  refine tx ?_
  refine r_run (a_box (X := .agg _) 1 rfl) rfl rfl ⟨rfl, trivial⟩ ?_
  refine aP rfl rfl ?_
  refine aP rfl rfl ?_
  refine arun_nil ?_
  refine awp_seq ?_
  refine tx ?_
  refine lN Tryz.underlying24 rfl sz24 rfl rfl ⟨rfl, trivial⟩ ?_
  refine r_callS (fun n => 8 + 1000 * n) (hC) rfl rfl Tryz.func27 rfl rfl (by first | rfl | simp [AV.okInL, AV.okIn, okInL_map]) rfl rfl rfl (by first | exact trivial | exact ⟨rfl, trivial⟩ | exact ⟨rfl, rfl, trivial⟩) rfl rfl rfl ?_
  refine r_pure (a_move (r := .tup _)) rfl rfl ?_
  refine r_pure (a_extract rfl) rfl rfl ?_
  refine r_pure (a_extract rfl) rfl rfl ?_
  refine aP rfl rfl ?_
  refine aP rfl rfl ?_
  refine arun_nil ?_
  refine awp_seq (awp_seq ?_)
  refine tx ?_
  refine mP rfl rfl ?_
  refine r_pure a_neq rfl rfl ?_
  refine arun_nil ?_
  refine thn_n ?_
  refine awp_cond _ rfl (fun h => ?_) (fun h => ?_)
  · refine awp_seq ?_
    refine tx ?_
    refine mP rfl rfl ?_
    refine aP rfl rfl ?_
    refine aP rfl rfl ?_
    refine arun_nil ?_
    refine awp_ret (thn_r ?_)
    refine fT (fun o => o) (.tmp _ _ _ _ rfl (.tmp _ _ _ _ rfl .nil)) ?_ ?_
    · exact rfl
    · exact trivial
  · exact absurd (by simpa using h) h0
theorem refText_s (c : CF) (ok : c.OK) (h0 : cfE c = 0) : Fn Tryz.prog 11 [.agg c.cells] (psR (allL c)) [] := by
  have hC := refAll_s c ok h0
  have hP := refPrint_s (allL c) (allL_ok ok h0) (allL_few h0)
  obtain ⟨s, e, hR⟩ := psR_two (allL c)
  rw [hR] at hP ⊢
  clear hR
  generalize (allL c).flatMap SE.pv = AL at *
  generalize (allL c).length = an at *
  clear ok h0
  obtain ⟨key, port, ps⟩ := c
  change Fn Tryz.prog _ [.agg [.p (.v (.string key)), .p (.v (.int .i64 port)), .p (.sl ps.length 5 (ps.flatMap PE.pv))]] _ _ at hC
  show Fn Tryz.prog _ [.agg [.p (.v (.string key)), .p (.v (.int .i64 port)), .p (.sl ps.length 5 (ps.flatMap PE.pv))]] _ _
  refine fn_intro Tryz.func11 rfl (Nat.le_of_ble_eq_true rfl) fun w0 A => ?_
  refine awp_seq ?_
  refine tx ?_
  refine r_run (a_box (X := .agg _) 1 rfl) rfl rfl ⟨rfl, trivial⟩ ?_
  refine aP rfl rfl ?_
  refine aP rfl rfl ?_
  refine arun_nil ?_
  refine awp_seq ?_
  refine tx ?_
  refine lN Tryz.underlying24 rfl sz24 rfl rfl ⟨rfl, trivial⟩ ?_
  refine r_callS (fun n => 8 + 1000 * n) (hC) rfl rfl Tryz.func27 rfl rfl (by first | rfl | simp [AV.okInL, AV.okIn, okInL_map]) rfl rfl rfl (by first | exact trivial | exact ⟨rfl, trivial⟩ | exact ⟨rfl, rfl, trivial⟩) rfl rfl rfl ?_
  refine r_pure (a_move (r := .tup _)) rfl rfl ?_
  refine r_pure (a_extract rfl) rfl rfl ?_
  refine r_pure (a_extract rfl) rfl rfl ?_
  refine r_pure (a_assign (r := .row _)) rfl rfl ?_
  refine aP rfl rfl ?_
  refine arun_nil ?_
  refine awp_seq (awp_seq ?_)
  refine tx ?_
  refine mP rfl rfl ?_
  refine r_pure a_neqT rfl rfl ?_
  refine arun_nil ?_
  refine thn_n ?_
  refine awp_cond _ rfl (fun h => ?_) (fun h => ?_)
  · cases h
  refine awp_skip (awp_seq ?_)
  refine tx ?_
  refine r_pure (a_move (r := .row _)) rfl rfl ?_
  refine r_callV (fun n => 15 + 1000 * n) (hP) rfl rfl Tryz.func28 rfl rfl (by first | rfl | simp [AV.noSl, AV.noSlL, AObj.noSl, PV.isV, bs_noSl]) (by first | rfl | simp [AV.noSl, AV.noSlL, AObj.noSl, PV.isV, bs_noSl]) rfl rfl rfl (by first | exact trivial | exact ⟨rfl, trivial⟩ | exact ⟨rfl, rfl, trivial⟩) rfl rfl rfl ?_
  refine r_pure (a_extract rfl) rfl rfl ?_
  refine r_pure (a_extract rfl) rfl rfl ?_
  refine aP rfl rfl ?_
  refine aP rfl rfl ?_
  refine arun_nil ?_
  refine awp_ret ?_
  refine fT (fun o => o) (.tmp _ _ _ _ rfl (.tmp _ _ _ _ rfl .nil)) ?_ ?_
  · exact rfl
  · exact trivial
theorem law_ShowTexts (x0 : List PV) (ty0 : Ty Tryz.prog 10 24 x0) (hb0 : PV.bdL 1048576 x0) : Fn Tryz.prog 4 [argAV true x0] (.p (.v (.bool true))) [] := by
  obtain ⟨c, ok, rfl⟩ := CF.of_ty ty0 hb0
  show Fn Tryz.prog _ [.agg c.cells] _ _
  have key : ∃ (s : ByteArray) (e : Int), Fn Tryz.prog 10 [.agg c.cells] (.tup [.p (.v (.string s)), .p (.v (.int .i64 e))]) [] ∧ Fn Tryz.prog 11 [.agg c.cells] (.tup [.p (.v (.string s)), .p (.v (.int .i64 e))]) [] := by
    by_cases h0 : cfE c = 0
    · have p1 := text_s c ok h0
      have q1 := refText_s c ok h0
      obtain ⟨s, e, hR⟩ := psR_two (allL c)
      rw [hR] at p1 q1
      exact ⟨s, e, p1, q1⟩
    · exact ⟨_, _, text_bad c ok h0, refText_bad c ok h0⟩
  obtain ⟨s, e, p1, q1⟩ := key
  clear ok
  obtain ⟨key, port, ps⟩ := c
  change Fn Tryz.prog _ [.agg [.p (.v (.string key)), .p (.v (.int .i64 port)), .p (.sl ps.length 5 (ps.flatMap PE.pv))]] _ _ at p1
  change Fn Tryz.prog _ [.agg [.p (.v (.string key)), .p (.v (.int .i64 port)), .p (.sl ps.length 5 (ps.flatMap PE.pv))]] _ _ at q1
  show Fn Tryz.prog _ [.agg [.p (.v (.string key)), .p (.v (.int .i64 port)), .p (.sl ps.length 5 (ps.flatMap PE.pv))]] _ _
  refine fn_intro Tryz.func4 rfl (Nat.le_of_ble_eq_true rfl) fun w0 A => ?_
  refine awp_seq ?_
  refine tx ?_
  refine r_run (a_box (X := .agg _) 1 rfl) rfl rfl ⟨rfl, trivial⟩ ?_
  refine aP rfl rfl ?_
  refine arun_nil ?_
  refine awp_seq ?_
  refine tx ?_
  refine lN Tryz.underlying24 rfl sz24 rfl rfl ⟨rfl, trivial⟩ ?_
  refine r_callS (fun n => 9 + 1000 * n) (p1) rfl rfl Tryz.func10 rfl rfl (by first | rfl | simp [AV.okInL, AV.okIn, okInL_map]) rfl rfl rfl (by first | exact trivial | exact ⟨rfl, trivial⟩ | exact ⟨rfl, rfl, trivial⟩) rfl rfl rfl ?_
  refine r_pure (a_move (r := .tup _)) rfl rfl ?_
  refine r_pure (a_extract rfl) rfl rfl ?_
  refine r_pure (a_extract rfl) rfl rfl ?_
  refine aP rfl rfl ?_
  refine aP rfl rfl ?_
  refine arun_nil ?_
  refine awp_seq ?_
  refine tx ?_
  refine lN Tryz.underlying24 rfl sz24 rfl rfl ⟨rfl, trivial⟩ ?_
  refine r_callS (fun n => 14 + 1000 * n) (q1) rfl rfl Tryz.func11 rfl rfl (by first | rfl | simp [AV.okInL, AV.okIn, okInL_map]) rfl rfl rfl (by first | exact trivial | exact ⟨rfl, trivial⟩ | exact ⟨rfl, rfl, trivial⟩) rfl rfl rfl ?_
  refine r_pure (a_move (r := .tup _)) rfl rfl ?_
  refine r_pure (a_extract rfl) rfl rfl ?_
  refine r_pure (a_extract rfl) rfl rfl ?_
  refine aP rfl rfl ?_
  refine aP rfl rfl ?_
  refine arun_nil ?_
  refine awp_seq ?_
  refine tx ?_
  refine mP rfl rfl ?_
  refine mP rfl rfl ?_
  refine r_pure a_seqlT rfl rfl ?_
  refine mP rfl rfl ?_
  refine mP rfl rfl ?_
  refine mP rfl rfl ?_
  refine r_pure a_eqlT rfl rfl ?_
  refine r_pure a_pickT rfl rfl ?_
  refine aP rfl rfl ?_
  refine arun_nil ?_
  refine awp_ret ?_
  refine fT (fun o => o) (.tmp _ _ _ _ rfl .nil) ?_ ?_
  · exact rfl
  · exact trivial
end Go.Proofs.YtgpleldhddpcgaaGreatDoor
