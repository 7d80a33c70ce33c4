/- trie: the list of a tree, putting. -/
import Derived.Test.YtgpleldhddpcgaaGreatDoorTw3
--%T
namespace Go.Proofs.YtgpleldhddpcgaaGreatDoor
open Go.RowKit Go.Sort
set_option linter.unusedVariables false
set_option linter.unusedSimpArgs false
set_option maxRecDepth 100000

/-! the list of a tree -/
set_option maxHeartbeats 2000000 in
theorem list_s : ∀ (t : TR), t.list.length * 40 ≤ 140737488355328 → Fn Tryz.prog 60 [.p (trP t)] (.row 0) [(0, .row 55 4 t.list.length (nds t.list))]
  | .nil, hz => by
    show Fn Tryz.prog 60 [.p (.v (.pointer none))] (.row 0) [(0, .row 55 4 0 [])]
    refine fn_intro Tryz.func60 rfl (Nat.le_of_ble_eq_true rfl) fun w0 A => ?_
    refine awp_seq ?_
    refine tx ?_
    refine aP rfl rfl ?_
    refine arun_nil ?_
    refine awp_seq (awp_seq ?_)
    refine tx ?_
    refine mP rfl rfl ?_
    refine r_pure (a_peqNN Tryz.underlying100) rfl rfl ?_
    refine arun_nil ?_
    refine thn_n ?_
    refine awp_cond _ rfl (fun h => ?_) (fun h => ?_)
    · refine awp_seq ?_
      refine tx ?_
      refine aP rfl rfl ?_
      refine arun_nil ?_
      refine thn_n (awp_re (re_nil 2 100 55 4 rfl rfl) ?_)
      refine awp_ret (thn_r ?_)
      refine fT (fun _ => 100) (.tmp _ _ _ _ rfl .nil) ?_ ?_
      · exact rfl
      · exact ⟨⟨rfl, rfl⟩, trivial⟩
    · cases h
  | .nd p o l r, hz => by
    rw [TR.list_nd] at hz ⊢
    simp only [List.length_cons, List.length_append] at hz
    have hl := list_s l (by omega)
    have hr := list_s r (by omega)
    show Fn Tryz.prog 60 [.p (.pt [.v (.int .u32 (addrK p)), .v (.int .i64 p.length), .v (.string o), trP l, trP r])] (.row 0) _
    rw [nds_cons, nds_app]
    simp only [List.length_cons, List.length_append]
    generalize nds l.list = cl at *
    generalize nds r.list = cr at *
    generalize l.list.length = nl at *
    generalize r.list.length = nr at *
    have hk1 : 1 + nl = nl + 1 := by omega
    have hk2 : nl + 1 + nr = nl + nr + 1 := by omega
    have hst : setR (([.v (.int .u32 (addrK p)), .v (.int .i64 p.length), .v (.string o), .v (.int .i64 0)] ++ cl) ++ cr) 3 [.v (.int .i64 ((nl + nr + 1 : Nat) : Int))] = .v (.int .u32 (addrK p)) :: .v (.int .i64 p.length) :: .v (.string o) :: .v (.int .i64 ((nl + nr + 1 : Nat) : Int)) :: (cl ++ cr) := by simp [setR]
    refine fn_intro Tryz.func60 rfl (Nat.le_of_ble_eq_true rfl) fun w0 A => ?_
    refine awp_seq ?_
    refine tx ?_
    refine aP rfl rfl ?_
    refine arun_nil ?_
    refine awp_seq (awp_seq ?_)
    refine tx ?_
    refine mP rfl rfl ?_
    refine r_pure (a_peqPN Tryz.underlying100) rfl rfl ?_
    refine arun_nil ?_
    refine thn_n ?_
    refine awp_cond _ rfl (fun h => ?_) (fun h => ?_)
    · cases h
    refine awp_skip (awp_seq ?_)
    refine awp_draw 4 (by kernel_rfl) ?_
    refine mP rfl rfl ?_
    refine r_pure a_nilPt rfl rfl ?_
    refine r_pure (b_fieldAddrP fi146_0 rfl) rfl rfl ?_
    refine r_pure (a_loadNp Tryz.underlying52 rfl sz52 (by first | omega | (simp; done) | (simp; omega)) (rfl)) rfl rfl ?_
    refine mP rfl rfl ?_
    refine r_pure a_nilPt rfl rfl ?_
    refine r_pure (b_fieldAddrP fi146_1 rfl) rfl rfl ?_
    refine r_pure (a_load1p Tryz.underlying9 rfl (by first | rfl | assumption | ((try simp only [List.getElem?_drop, List.getElem?_take, Int.toNat_natCast, Nat.mul_one, Nat.add_zero, Nat.zero_add]); first | assumption | rfl))) rfl rfl ?_
    refine r_pure (b_build pl55 zr55 rfl rfl) rfl rfl ?_
    refine r_run (a_buildSlice 15 Tryz.underlying25 sz55 zc55 (Nat.le_of_ble_eq_true rfl) (Nat.le_of_ble_eq_true rfl) rfl rfl rfl rfl (Nat.le_of_ble_eq_true rfl)) rfl rfl ⟨rfl, trivial⟩ ?_
    refine r_pure (a_assign (r := .row _)) rfl rfl ?_
    refine arun_nil ⟨by kernel_rfl, ?_⟩
    refine awp_seq ?_
    refine awp_draw 8 (by kernel_rfl) ?_
    refine r_pure (a_move (r := .row _)) rfl rfl ?_
    refine mP rfl rfl ?_
    refine r_pure a_nilPt rfl rfl ?_
    refine r_pure (b_fieldAddrP fi146_2 rfl) rfl rfl ?_
    refine r_pure (a_indexAddrAP Tryz.underlying144 sz100 (by omega) (by omega) rfl) rfl rfl ?_
    refine r_pure (a_load1p Tryz.underlying100 rfl (by first | rfl | assumption | ((try simp only [List.getElem?_drop, List.getElem?_take, Int.toNat_natCast, Nat.mul_one, Nat.add_zero, Nat.zero_add]); first | assumption | rfl))) rfl rfl ?_
    refine r_callS (fun n => 22 + 1000 * n) (hl) rfl rfl Tryz.func60 rfl rfl (by first | rfl | simp [AV.okInL, AV.okIn, okInL_map]) rfl rfl rfl (by first | exact trivial | exact ⟨rfl, trivial⟩ | exact ⟨rfl, rfl, trivial⟩) rfl rfl rfl ?_
    refine r_run (a_append 23 Tryz.underlying25 eo55 (src_row) (by simp only [maxLen]; omega) (by omega) hk1 rfl) rfl rfl ⟨rfl, rfl, rfl, trivial⟩ ?_
    refine mP rfl rfl ?_
    refine r_pure a_nilPt rfl rfl ?_
    refine r_pure (b_fieldAddrP fi146_2 rfl) rfl rfl ?_
    refine r_pure (a_indexAddrAP Tryz.underlying144 sz100 (by omega) (by omega) rfl) rfl rfl ?_
    refine r_pure (a_load1p Tryz.underlying100 rfl (by first | rfl | assumption | ((try simp only [List.getElem?_drop, List.getElem?_take, Int.toNat_natCast, Nat.mul_one, Nat.add_zero, Nat.zero_add]); first | assumption | rfl))) rfl rfl ?_
    refine r_callS (fun n => 29 + 1000 * n) (hr) rfl rfl Tryz.func60 rfl rfl (by first | rfl | simp [AV.okInL, AV.okIn, okInL_map]) rfl rfl rfl (by first | exact trivial | exact ⟨rfl, trivial⟩ | exact ⟨rfl, rfl, trivial⟩) rfl rfl rfl ?_
    refine r_run (a_append 30 Tryz.underlying25 eo55 (src_row) (by simp only [maxLen]; omega) (by omega) hk2 rfl) rfl rfl ⟨rfl, rfl, rfl, trivial⟩ ?_
    refine r_pure (a_assign (r := .row _)) rfl rfl ?_
    refine arun_nil ⟨by kernel_rfl, ?_⟩
    refine awp_seq ?_
    refine tx ?_
    refine r_pure (a_move (r := .row _)) rfl rfl ?_
    refine r_pure (a_move (r := .row _)) rfl rfl ?_
    refine r_run (a_lenR Tryz.underlying25) rfl rfl ⟨rfl, trivial⟩ ?_
    refine r_run (a_indexAddrR Tryz.underlying25 sz55 (by omega) (by omega) (by first | (simp only [Int.toNat_natCast, Nat.mul_one, Nat.zero_add]; rfl) | rfl)) rfl rfl ⟨rfl, trivial⟩ ?_
    refine fA fi55_2 rfl rfl ?_
    refine r_run (a_storeR (Y := .p _) sz3 rfl rfl (by first | rfl | omega) (by first | omega | (simp; done) | (simp; omega)) hst) rfl rfl ⟨rfl, trivial⟩ ?_
    refine arun_nil ?_
    refine awp_seq ?_
    refine tx ?_
    refine r_pure (a_move (r := .row _)) rfl rfl ?_
    refine r_pure (a_assign (r := .row _)) rfl rfl ?_
    refine arun_nil ?_
    refine awp_ret ?_
    refine fT (fun _ => 30) (.tmp _ _ _ _ rfl .nil) ?_ ?_
    · exact rfl
    · exact ⟨⟨rfl, rfl⟩, trivial⟩

/-! copies -/
theorem cloneN_s (n : Nat) (cs : List PV) (hx : cs.length = n * 4) (hn : n * 40 ≤ 140737488355328) : Fn Tryz.prog 40 [.p (.sl n 4 cs)] (.row 0) [(0, .row 55 4 n cs)] := by
  refine fn_intro Tryz.func40 rfl (Nat.le_of_ble_eq_true rfl) fun w0 A => ?_
  refine awp_seq ?_
  refine tx ?_
  refine aP rfl rfl ?_
  refine arun_nil ?_
  by_cases h0 : n = 0
  · subst h0
    obtain rfl : cs = [] := List.eq_nil_of_length_eq_zero (by omega)
    refine awp_seq (awp_seq ?_)
    refine tx ?_
    refine mP rfl rfl ?_
    refine r_pure (a_seqX Tryz.underlying25) rfl rfl ?_
    refine arun_nil ?_
    refine thn_n ?_
    refine awp_condX rfl ?_ ?_
    · refine awp_seq ?_
      refine tx ?_
      refine aP rfl rfl ?_
      refine arun_nil ?_
      refine thn_n (awp_re (re_nil 2 100 55 4 rfl rfl) ?_)
      refine awp_ret (thn_r ?_)
      refine fT (fun _ => 100) (.tmp _ _ _ _ rfl .nil) ?_ ?_
      · exact rfl
      · exact ⟨⟨rfl, rfl⟩, trivial⟩
    · refine awp_skip (awp_seq ?_)
      refine tx ?_
      refine r_run (a_buildSlice0 5 Tryz.underlying25 sz55) rfl rfl ⟨rfl, trivial⟩ ?_
      refine mP rfl rfl ?_
      refine r_run (a_append 7 Tryz.underlying25 eo55 (src_sl) (by simp only [maxLen]; omega) (by omega) rfl rfl) rfl rfl ⟨rfl, rfl, trivial⟩ ?_
      refine r_pure (a_assign (r := .row _)) rfl rfl ?_
      refine arun_nil ?_
      refine awp_ret ?_
      refine fT (fun _ => 7) (.tmp _ _ _ _ rfl .nil) ?_ ?_
      · exact rfl
      · exact ⟨⟨rfl, rfl⟩, trivial⟩
  · refine awp_seq (awp_seq ?_)
    refine tx ?_
    refine mP rfl rfl ?_
    refine r_pure (a_seqS Tryz.underlying25 (by omega)) rfl rfl ?_
    refine arun_nil ?_
    refine thn_n ?_
    refine awp_cond _ rfl (fun h => ?_) (fun h => ?_)
    · cases h
    · refine awp_skip (awp_seq ?_)
      refine tx ?_
      refine r_run (a_buildSlice0 5 Tryz.underlying25 sz55) rfl rfl ⟨rfl, trivial⟩ ?_
      refine mP rfl rfl ?_
      refine r_run (a_append 7 Tryz.underlying25 eo55 (src_sl) (by simp only [maxLen]; omega) (by omega) (show _ = n by omega) rfl) rfl rfl ⟨rfl, rfl, trivial⟩ ?_
      refine r_pure (a_assign (r := .row _)) rfl rfl ?_
      refine arun_nil ?_
      refine awp_ret ?_
      refine fT (fun _ => 7) (.tmp _ _ _ _ rfl .nil) ?_ ?_
      · exact rfl
      · exact ⟨⟨rfl, rfl⟩, trivial⟩

/-! putting -/
def keyA (p : Key) : List AV := netA (addrK p) p.length
theorem keyEq {p q : Key} (hp : p.length ≤ 32) : eqL [.int .u32 (addrK p), .int .i64 p.length] [.int .u32 (addrK q), .int .i64 q.length] = decide (p = q) := by
  rw [Bool.eq_iff_iff, eqL_true, decide_eq_true_eq]
  constructor
  · intro h
    simp only [List.cons.injEq, Value.int.injEq, true_and, and_true] at h
    exact addrK_inj hp (by omega) h.1
  · intro h; rw [h]
theorem kJoin_s (p q : Key) (hp : p.length ≤ 32) (hq : q.length ≤ 32) : Fn Tryz.prog 100 [.agg (keyA p), .agg (keyA q)] (.tup [.agg (keyA (lcpL p q)), .p (.v (.int .i64 0))]) [] := by
  have h := join_g (addrK p) p.length (addrK q) q.length (addrK_bd p hp).1 (addrK_bd p hp).2 (addrK_bd q hq).1 (addrK_bd q hq).2
  obtain ⟨e1, e2, e3⟩ := join_key p q hp hq
  rw [e1, e2, e3] at h
  refine fn_gives rfl (fun S m w => ?_) h
  simp only [Rep]
  refine ⟨_, rfl, ?_⟩
  simp only [RepL, Rep, keyA, netA, PRep]
  exact ⟨_, _, rfl, ⟨_, rfl, ⟨_, _, rfl, ⟨rfl, rfl⟩, _, _, rfl, ⟨rfl, rfl⟩, rfl⟩, by intro x hx; simp at hx; rcases hx with rfl | rfl <;> rfl⟩, _, _, rfl, ⟨rfl, rfl⟩, rfl⟩

set_option maxHeartbeats 4000000 in
theorem put_s : ∀ (t : TR) (n : Key) (o : ByteArray), t.short → n.length ≤ 32 → Fn Tryz.prog 58 [.p (trP t), .agg (keyA n), .p (.v (.string o))] (.p (trP (t.put n o))) []
  | .nil, n, o, hs, hn => by
    rw [TR.put]
    show Fn Tryz.prog 58 [.p (.v (.pointer none)), .agg (netA (addrK n) n.length), .p (.v (.string o))] _ []
    refine fn_intro Tryz.func58 rfl (Nat.le_of_ble_eq_true rfl) fun w0 A => ?_
    refine awp_seq ?_
    refine tx ?_
    refine r_run (a_box (X := .agg _) 4 rfl) rfl rfl ⟨rfl, trivial⟩ ?_
    refine aP rfl rfl ?_
    refine arun_nil ?_
    refine awp_seq ?_
    refine tx ?_
    refine lN Tryz.underlying52 rfl sz52 rfl rfl ⟨rfl, trivial⟩ ?_
    refine mP rfl rfl ?_
    refine r_pure (b_build pl146 zr146 rfl rfl) rfl rfl ?_
    refine r_run (a_box (X := .agg _) 15 rfl) rfl rfl ⟨rfl, trivial⟩ ?_
    refine r_pure (a_assign (r := .ref _ _)) rfl rfl ?_
    refine arun_nil ?_
    refine awp_seq (awp_block (awp_seq ?_))
    refine tx ?_
    refine mP rfl rfl ?_
    refine r_pure (a_peqNN Tryz.underlying100) rfl rfl ?_
    refine aP rfl rfl ?_
    refine arun_nil ?_
    refine thn_n ?_
    refine awp_cond _ rfl (fun h => ?_) (fun h => ?_)
    · refine awp_reO (reo_fz (cs := [.v (.int .u32 (addrK n)), .v (.int .i64 n.length), .v (.string o), .v (.pointer none), .v (.pointer none)]) 15 rfl rfl) ?_
      refine awp_seq ?_
      refine tx ?_
      refine mP rfl rfl ?_
      refine aP rfl rfl ?_
      refine arun_nil ?_
      refine awp_ret (inb_r (thn_r ?_))
      refine fT (fun o => o) (.tmp _ _ _ _ rfl .nil) ?_ ?_
      · exact rfl
      · exact trivial
    · cases h
  | .nd p q l r, n, o, hs, hn => by
    obtain ⟨hp, hsl, hsr⟩ := hs
    have hH := kHolds_s p n hp hn
    have hH2 := kHolds_s n p hn hp
    have hEq := keyEq (q := n) hp
    rw [TR.put]
    show Fn Tryz.prog 58 [.p (.pt [.v (.int .u32 (addrK p)), .v (.int .i64 p.length), .v (.string q), trP l, trP r]), .agg (netA (addrK n) n.length), .p (.v (.string o))] _ []
    refine fn_intro Tryz.func58 rfl (Nat.le_of_ble_eq_true rfl) fun w0 A => ?_
    refine awp_seq ?_
    refine tx ?_
    refine r_run (a_box (X := .agg _) 4 rfl) rfl rfl ⟨rfl, trivial⟩ ?_
    refine aP rfl rfl ?_
    refine arun_nil ?_
    refine awp_seq ?_
    refine tx ?_
    refine lN Tryz.underlying52 rfl sz52 rfl rfl ⟨rfl, trivial⟩ ?_
    refine mP rfl rfl ?_
    refine r_pure (b_build pl146 zr146 rfl rfl) rfl rfl ?_
    refine r_run (a_box (X := .agg _) 15 rfl) rfl rfl ⟨rfl, trivial⟩ ?_
    refine r_pure (a_assign (r := .ref _ _)) rfl rfl ?_
    refine arun_nil ?_
    refine awp_seq (awp_block (awp_seq ?_))
    refine tx ?_
    refine mP rfl rfl ?_
    refine r_pure (a_peqPN Tryz.underlying100) rfl rfl ?_
    refine aP rfl rfl ?_
    refine arun_nil ?_
    refine thn_n ?_
    refine awp_cond _ rfl (fun h => ?_) (fun h => ?_)
    · cases h
    refine awp_seq ?_
    refine awp_draw 4 (by kernel_rfl) ?_
    refine mP rfl rfl ?_
    refine r_pure a_nilPt rfl rfl ?_
    refine r_pure (b_fieldAddrP fi146_0 rfl) rfl rfl ?_
    refine r_pure (a_loadNp Tryz.underlying52 rfl sz52 (by first | omega | (simp; done) | (simp; omega)) (rfl)) rfl rfl ?_
    refine lN Tryz.underlying52 rfl sz52 rfl rfl ⟨rfl, trivial⟩ ?_
    refine r_pure (a_steql Tryz.underlying52 rfl rfl (by kernel_rfl) (by kernel_rfl) (by kernel_rfl)) rfl rfl ?_
    refine aP rfl rfl ?_
    refine arun_nil ⟨by kernel_rfl, ?_⟩
    refine thn_n ?_
    refine awp_cond _ rfl (fun h => ?_) (fun h => ?_)
    · have he : p = n := by
        have h' := h
        rw [hEq] at h'
        simpa using h'
      rw [if_pos he]
      refine awp_seq ?_
      refine awp_draw 4 (by kernel_rfl) ?_
      refine lN Tryz.underlying52 rfl sz52 rfl rfl ⟨rfl, trivial⟩ ?_
      refine mP rfl rfl ?_
      refine mP rfl rfl ?_
      refine r_pure a_nilPt rfl rfl ?_
      refine r_pure (b_fieldAddrP fi146_2 rfl) rfl rfl ?_
      refine r_pure (a_loadNp Tryz.underlying144 rfl sz144 (by first | omega | (simp; done) | (simp; omega)) (rfl)) rfl rfl ?_
      refine r_pure (b_build pl146 zr146 rfl rfl) rfl rfl ?_
      refine r_run (a_box (X := .agg _) 34 rfl) rfl rfl ⟨rfl, trivial⟩ ?_
      refine r_pure (a_assign (r := .ref _ _)) rfl rfl ?_
      refine arun_nil ⟨by kernel_rfl, ?_⟩
      refine thn_n (awp_reO (reo_fz (cs := [.v (.int .u32 (addrK n)), .v (.int .i64 n.length), .v (.string o), trP l, trP r]) 34 rfl rfl) ?_)
      refine awp_ret (inb_r (thn_r ?_))
      refine fT (fun o => o) (.tmp _ _ _ _ rfl .nil) ?_ ?_
      · exact rfl
      · exact trivial
    have hne : p ≠ n := by
      have h' := h
      rw [hEq] at h'
      simpa using h'
    clear h
    rw [if_neg hne]
    refine awp_seq ?_
    refine awp_draw 4 (by kernel_rfl) ?_
    refine mP rfl rfl ?_
    refine r_pure a_nilPt rfl rfl ?_
    refine r_pure (b_fieldAddrP fi146_0 rfl) rfl rfl ?_
    refine r_pure (a_loadNp Tryz.underlying52 rfl sz52 (by first | omega | (simp; done) | (simp; omega)) (rfl)) rfl rfl ?_
    refine lN Tryz.underlying52 rfl sz52 rfl rfl ⟨rfl, trivial⟩ ?_
    refine r_callV (fun n => 41 + 1000 * n) (hH) rfl rfl Tryz.func98 rfl rfl (by first | rfl | simp [AV.noSl, AV.noSlL, AObj.noSl, PV.isV, bs_noSl]) (by first | rfl | simp [AV.noSl, AV.noSlL, AObj.noSl, PV.isV, bs_noSl]) rfl rfl rfl (by first | exact trivial | exact ⟨rfl, trivial⟩ | exact ⟨rfl, rfl, trivial⟩) rfl rfl rfl ?_
    refine aP rfl rfl ?_
    refine arun_nil ⟨by kernel_rfl, ?_⟩
    refine thn_n ?_
    refine awp_cond _ rfl (fun h => ?_) (fun h => ?_)
    · have hpn : p <+: n := by simpa using h
      clear h
      rw [if_pos hpn]
      have hx := pre_next hpn (fun e => hne e.symm)
      have hlt : p.length < n.length := by have := hx.length_le; simp at this; omega
      have hS := side_s p n hlt hn
      cases hb : bitAt n p.length with
      | true =>
        have hP := put_s r n o hsr hn
        rw [show bitN n p.length = 1 by unfold bitN; rw [hb]; rfl] at hS
        rw [if_pos rfl]
        refine awp_seq ?_
        refine tx ?_
        refine mP rfl rfl ?_
        refine r_pure a_nilPt rfl rfl ?_
        refine r_pure (a_loadNp Tryz.underlying146 rfl sz146 (by first | omega | (simp; done) | (simp; omega)) (rfl)) rfl rfl ?_
        refine r_run (a_alloc 8 zr146 rfl) rfl rfl ⟨rfl, trivial⟩ ?_
        refine r_run (a_storeAll (Y := .agg _) sz146 rfl (by first | exact Nat.eq_of_beq_eq_true rfl | (simp only [AV.cells, List.length_map]; first | assumption | omega)) (Nat.eq_of_beq_eq_true rfl)) rfl rfl ⟨rfl, trivial⟩ ?_
        refine arun_nil ?_
        refine awp_seq ?_
        refine awp_draw 4 (by kernel_rfl) ?_
        refine mP rfl rfl ?_
        refine r_pure a_nilPt rfl rfl ?_
        refine r_pure (b_fieldAddrP fi146_0 rfl) rfl rfl ?_
        refine r_pure (a_loadNp Tryz.underlying52 rfl sz52 (by first | omega | (simp; done) | (simp; omega)) (rfl)) rfl rfl ?_
        refine lN Tryz.underlying52 rfl sz52 rfl rfl ⟨rfl, trivial⟩ ?_
        refine r_callV (fun n => 50 + 1000 * n) (hS) rfl rfl Tryz.func99 rfl rfl (by first | rfl | simp [AV.noSl, AV.noSlL, AObj.noSl, PV.isV, bs_noSl]) (by first | rfl | simp [AV.noSl, AV.noSlL, AObj.noSl, PV.isV, bs_noSl]) rfl rfl rfl (by first | exact trivial | exact ⟨rfl, trivial⟩ | exact ⟨rfl, rfl, trivial⟩) rfl rfl rfl ?_
        refine aP rfl rfl ?_
        refine arun_nil ⟨by kernel_rfl, ?_⟩
        refine awp_seq ?_
        refine awp_draw 4 (by kernel_rfl) ?_
        refine mP rfl rfl ?_
        refine mP rfl rfl ?_
        refine mP rfl rfl ?_
        refine r_pure a_nilPt rfl rfl ?_
        refine r_pure (b_fieldAddrP fi146_2 rfl) rfl rfl ?_
        refine r_pure (a_indexAddrAP Tryz.underlying144 sz100 (by omega) (by omega) rfl) rfl rfl ?_
        refine r_pure (a_load1p Tryz.underlying100 rfl (by first | rfl | assumption | ((try simp only [List.getElem?_drop, List.getElem?_take, Int.toNat_natCast, Nat.mul_one, Nat.add_zero, Nat.zero_add]); first | assumption | rfl))) rfl rfl ?_
        refine lN Tryz.underlying52 rfl sz52 rfl rfl ⟨rfl, trivial⟩ ?_
        refine mP rfl rfl ?_
        refine r_callS (fun n => 60 + 1000 * n) (hP) rfl rfl Tryz.func58 rfl rfl (by first | rfl | simp [AV.okInL, AV.okIn, okInL_map]) rfl rfl rfl (by first | exact trivial | exact ⟨rfl, trivial⟩ | exact ⟨rfl, rfl, trivial⟩) rfl rfl rfl ?_
        refine fA fi146_2 rfl rfl ?_
        refine r_pure (a_indexAddrA Tryz.underlying144 sz100 (by omega) (by omega) (by first | (simp only [Int.toNat_natCast, Nat.mul_one, Nat.zero_add]; rfl) | rfl)) rfl rfl ?_
        refine r_run (a_store (Y := .p _) sz100 rfl (by first | exact Nat.eq_of_beq_eq_true rfl | (simp only [AV.cells, List.length_map]; first | assumption | omega)) (by first | exact Nat.le_of_ble_eq_true rfl | omega | (simp only [AV.cells, List.length_map]; omega)) (by first | (simp only [setR, AV.cells, List.take_succ_cons, List.take_zero, List.drop_succ_cons, List.drop_zero, List.drop_nil, List.take_nil, List.nil_append, List.cons_append, List.append_nil, List.length_cons, List.length_nil, Nat.reduceAdd, Nat.zero_add, Nat.add_zero]; rfl) | rfl)) rfl rfl ⟨rfl, trivial⟩ ?_
        refine arun_nil ⟨by kernel_rfl, ?_⟩
        refine awp_seq ?_
        refine tx ?_
        refine r_pure (a_assign (r := .ref _ _)) rfl rfl ?_
        refine arun_nil ?_
        refine thn_n (awp_reO (reo_fz (cs := [.v (.int .u32 (addrK p)), .v (.int .i64 p.length), .v (.string q), trP l, trP (r.put n o)]) 8 rfl rfl) ?_)
        refine awp_ret (inb_r (thn_r ?_))
        refine fT (fun o => o) (.tmp _ _ _ _ rfl .nil) ?_ ?_
        · exact rfl
        · exact trivial
      | false =>
        have hP := put_s l n o hsl hn
        rw [show bitN n p.length = 0 by unfold bitN; rw [hb]; rfl] at hS
        rw [if_neg (by simp)]
        refine awp_seq ?_
        refine tx ?_
        refine mP rfl rfl ?_
        refine r_pure a_nilPt rfl rfl ?_
        refine r_pure (a_loadNp Tryz.underlying146 rfl sz146 (by first | omega | (simp; done) | (simp; omega)) (rfl)) rfl rfl ?_
        refine r_run (a_alloc 8 zr146 rfl) rfl rfl ⟨rfl, trivial⟩ ?_
        refine r_run (a_storeAll (Y := .agg _) sz146 rfl (by first | exact Nat.eq_of_beq_eq_true rfl | (simp only [AV.cells, List.length_map]; first | assumption | omega)) (Nat.eq_of_beq_eq_true rfl)) rfl rfl ⟨rfl, trivial⟩ ?_
        refine arun_nil ?_
        refine awp_seq ?_
        refine awp_draw 4 (by kernel_rfl) ?_
        refine mP rfl rfl ?_
        refine r_pure a_nilPt rfl rfl ?_
        refine r_pure (b_fieldAddrP fi146_0 rfl) rfl rfl ?_
        refine r_pure (a_loadNp Tryz.underlying52 rfl sz52 (by first | omega | (simp; done) | (simp; omega)) (rfl)) rfl rfl ?_
        refine lN Tryz.underlying52 rfl sz52 rfl rfl ⟨rfl, trivial⟩ ?_
        refine r_callV (fun n => 50 + 1000 * n) (hS) rfl rfl Tryz.func99 rfl rfl (by first | rfl | simp [AV.noSl, AV.noSlL, AObj.noSl, PV.isV, bs_noSl]) (by first | rfl | simp [AV.noSl, AV.noSlL, AObj.noSl, PV.isV, bs_noSl]) rfl rfl rfl (by first | exact trivial | exact ⟨rfl, trivial⟩ | exact ⟨rfl, rfl, trivial⟩) rfl rfl rfl ?_
        refine aP rfl rfl ?_
        refine arun_nil ⟨by kernel_rfl, ?_⟩
        refine awp_seq ?_
        refine awp_draw 4 (by kernel_rfl) ?_
        refine mP rfl rfl ?_
        refine mP rfl rfl ?_
        refine mP rfl rfl ?_
        refine r_pure a_nilPt rfl rfl ?_
        refine r_pure (b_fieldAddrP fi146_2 rfl) rfl rfl ?_
        refine r_pure (a_indexAddrAP Tryz.underlying144 sz100 (by omega) (by omega) rfl) rfl rfl ?_
        refine r_pure (a_load1p Tryz.underlying100 rfl (by first | rfl | assumption | ((try simp only [List.getElem?_drop, List.getElem?_take, Int.toNat_natCast, Nat.mul_one, Nat.add_zero, Nat.zero_add]); first | assumption | rfl))) rfl rfl ?_
        refine lN Tryz.underlying52 rfl sz52 rfl rfl ⟨rfl, trivial⟩ ?_
        refine mP rfl rfl ?_
        refine r_callS (fun n => 60 + 1000 * n) (hP) rfl rfl Tryz.func58 rfl rfl (by first | rfl | simp [AV.okInL, AV.okIn, okInL_map]) rfl rfl rfl (by first | exact trivial | exact ⟨rfl, trivial⟩ | exact ⟨rfl, rfl, trivial⟩) rfl rfl rfl ?_
        refine fA fi146_2 rfl rfl ?_
        refine r_pure (a_indexAddrA Tryz.underlying144 sz100 (by omega) (by omega) (by first | (simp only [Int.toNat_natCast, Nat.mul_one, Nat.zero_add]; rfl) | rfl)) rfl rfl ?_
        refine r_run (a_store (Y := .p _) sz100 rfl (by first | exact Nat.eq_of_beq_eq_true rfl | (simp only [AV.cells, List.length_map]; first | assumption | omega)) (by first | exact Nat.le_of_ble_eq_true rfl | omega | (simp only [AV.cells, List.length_map]; omega)) (by first | (simp only [setR, AV.cells, List.take_succ_cons, List.take_zero, List.drop_succ_cons, List.drop_zero, List.drop_nil, List.take_nil, List.nil_append, List.cons_append, List.append_nil, List.length_cons, List.length_nil, Nat.reduceAdd, Nat.zero_add, Nat.add_zero]; rfl) | rfl)) rfl rfl ⟨rfl, trivial⟩ ?_
        refine arun_nil ⟨by kernel_rfl, ?_⟩
        refine awp_seq ?_
        refine tx ?_
        refine r_pure (a_assign (r := .ref _ _)) rfl rfl ?_
        refine arun_nil ?_
        refine thn_n (awp_reO (reo_fz (cs := [.v (.int .u32 (addrK p)), .v (.int .i64 p.length), .v (.string q), trP (l.put n o), trP r]) 8 rfl rfl) ?_)
        refine awp_ret (inb_r (thn_r ?_))
        refine fT (fun o => o) (.tmp _ _ _ _ rfl .nil) ?_ ?_
        · exact rfl
        · exact trivial
    have hpn : ¬ p <+: n := by simpa using h
    clear h
    rw [if_neg hpn]
    refine awp_seq ?_
    refine awp_draw 4 (by kernel_rfl) ?_
    refine lN Tryz.underlying52 rfl sz52 rfl rfl ⟨rfl, trivial⟩ ?_
    refine mP rfl rfl ?_
    refine r_pure a_nilPt rfl rfl ?_
    refine r_pure (b_fieldAddrP fi146_0 rfl) rfl rfl ?_
    refine r_pure (a_loadNp Tryz.underlying52 rfl sz52 (by first | omega | (simp; done) | (simp; omega)) (rfl)) rfl rfl ?_
    refine r_callV (fun n => 69 + 1000 * n) (hH2) rfl rfl Tryz.func98 rfl rfl (by first | rfl | simp [AV.noSl, AV.noSlL, AObj.noSl, PV.isV, bs_noSl]) (by first | rfl | simp [AV.noSl, AV.noSlL, AObj.noSl, PV.isV, bs_noSl]) rfl rfl rfl (by first | exact trivial | exact ⟨rfl, trivial⟩ | exact ⟨rfl, rfl, trivial⟩) rfl rfl rfl ?_
    refine aP rfl rfl ?_
    refine arun_nil ⟨by kernel_rfl, ?_⟩
    refine thn_n ?_
    refine awp_cond _ rfl (fun h => ?_) (fun h => ?_)
    · have hnp : n <+: p := by simpa using h
      clear h
      rw [if_pos hnp]
      have hx := pre_next hnp (fun e => hne e)
      have hlt : n.length < p.length := by have := hx.length_le; simp at this; omega
      have hS := side_s n p hlt hp
      cases hb : bitAt p n.length with
      | true =>
        rw [show bitN p n.length = 1 by unfold bitN; rw [hb]; rfl] at hS
        rw [if_pos rfl]
        refine awp_seq ?_
        refine awp_draw 4 (by kernel_rfl) ?_
        refine r_pure (a_move (r := .ref _ _)) rfl rfl ?_
        refine lN Tryz.underlying52 rfl sz52 rfl rfl ⟨rfl, trivial⟩ ?_
        refine mP rfl rfl ?_
        refine r_pure a_nilPt rfl rfl ?_
        refine r_pure (b_fieldAddrP fi146_0 rfl) rfl rfl ?_
        refine r_pure (a_loadNp Tryz.underlying52 rfl sz52 (by first | omega | (simp; done) | (simp; omega)) (rfl)) rfl rfl ?_
        refine r_callV (fun n => 76 + 1000 * n) (hS) rfl rfl Tryz.func99 rfl rfl (by first | rfl | simp [AV.noSl, AV.noSlL, AObj.noSl, PV.isV, bs_noSl]) (by first | rfl | simp [AV.noSl, AV.noSlL, AObj.noSl, PV.isV, bs_noSl]) rfl rfl rfl (by first | exact trivial | exact ⟨rfl, trivial⟩ | exact ⟨rfl, rfl, trivial⟩) rfl rfl rfl ?_
        refine mP rfl rfl ?_
        refine r_pure a_nilRef rfl rfl ?_
        refine fA fi146_2 rfl rfl ?_
        refine r_pure (a_indexAddrA Tryz.underlying144 sz100 (by omega) (by omega) (by first | (simp only [Int.toNat_natCast, Nat.mul_one, Nat.zero_add]; rfl) | rfl)) rfl rfl ?_
        refine r_run (a_store (Y := .p _) sz100 rfl (by first | exact Nat.eq_of_beq_eq_true rfl | (simp only [AV.cells, List.length_map]; first | assumption | omega)) (by first | exact Nat.le_of_ble_eq_true rfl | omega | (simp only [AV.cells, List.length_map]; omega)) (by first | (simp only [setR, AV.cells, List.take_succ_cons, List.take_zero, List.drop_succ_cons, List.drop_zero, List.drop_nil, List.take_nil, List.nil_append, List.cons_append, List.append_nil, List.length_cons, List.length_nil, Nat.reduceAdd, Nat.zero_add, Nat.add_zero]; rfl) | rfl)) rfl rfl ⟨rfl, trivial⟩ ?_
        refine arun_nil ⟨by kernel_rfl, ?_⟩
        refine awp_seq ?_
        refine tx ?_
        refine r_pure (a_move (r := .ref _ _)) rfl rfl ?_
        refine r_pure (a_assign (r := .ref _ _)) rfl rfl ?_
        refine arun_nil ?_
        refine thn_n (awp_reO (reo_fz (cs := [.v (.int .u32 (addrK n)), .v (.int .i64 n.length), .v (.string o), .v (.pointer none), .pt [.v (.int .u32 (addrK p)), .v (.int .i64 p.length), .v (.string q), trP l, trP r]]) 15 rfl rfl) ?_)
        refine awp_ret (inb_r (thn_r ?_))
        refine fT (fun o => o) (.tmp _ _ _ _ rfl .nil) ?_ ?_
        · exact rfl
        · exact trivial
      | false =>
        rw [show bitN p n.length = 0 by unfold bitN; rw [hb]; rfl] at hS
        rw [if_neg (by simp)]
        refine awp_seq ?_
        refine awp_draw 4 (by kernel_rfl) ?_
        refine r_pure (a_move (r := .ref _ _)) rfl rfl ?_
        refine lN Tryz.underlying52 rfl sz52 rfl rfl ⟨rfl, trivial⟩ ?_
        refine mP rfl rfl ?_
        refine r_pure a_nilPt rfl rfl ?_
        refine r_pure (b_fieldAddrP fi146_0 rfl) rfl rfl ?_
        refine r_pure (a_loadNp Tryz.underlying52 rfl sz52 (by first | omega | (simp; done) | (simp; omega)) (rfl)) rfl rfl ?_
        refine r_callV (fun n => 76 + 1000 * n) (hS) rfl rfl Tryz.func99 rfl rfl (by first | rfl | simp [AV.noSl, AV.noSlL, AObj.noSl, PV.isV, bs_noSl]) (by first | rfl | simp [AV.noSl, AV.noSlL, AObj.noSl, PV.isV, bs_noSl]) rfl rfl rfl (by first | exact trivial | exact ⟨rfl, trivial⟩ | exact ⟨rfl, rfl, trivial⟩) rfl rfl rfl ?_
        refine mP rfl rfl ?_
        refine r_pure a_nilRef rfl rfl ?_
        refine fA fi146_2 rfl rfl ?_
        refine r_pure (a_indexAddrA Tryz.underlying144 sz100 (by omega) (by omega) (by first | (simp only [Int.toNat_natCast, Nat.mul_one, Nat.zero_add]; rfl) | rfl)) rfl rfl ?_
        refine r_run (a_store (Y := .p _) sz100 rfl (by first | exact Nat.eq_of_beq_eq_true rfl | (simp only [AV.cells, List.length_map]; first | assumption | omega)) (by first | exact Nat.le_of_ble_eq_true rfl | omega | (simp only [AV.cells, List.length_map]; omega)) (by first | (simp only [setR, AV.cells, List.take_succ_cons, List.take_zero, List.drop_succ_cons, List.drop_zero, List.drop_nil, List.take_nil, List.nil_append, List.cons_append, List.append_nil, List.length_cons, List.length_nil, Nat.reduceAdd, Nat.zero_add, Nat.add_zero]; rfl) | rfl)) rfl rfl ⟨rfl, trivial⟩ ?_
        refine arun_nil ⟨by kernel_rfl, ?_⟩
        refine awp_seq ?_
        refine tx ?_
        refine r_pure (a_move (r := .ref _ _)) rfl rfl ?_
        refine r_pure (a_assign (r := .ref _ _)) rfl rfl ?_
        refine arun_nil ?_
        refine thn_n (awp_reO (reo_fz (cs := [.v (.int .u32 (addrK n)), .v (.int .i64 n.length), .v (.string o), .pt [.v (.int .u32 (addrK p)), .v (.int .i64 p.length), .v (.string q), trP l, trP r], .v (.pointer none)]) 15 rfl rfl) ?_)
        refine awp_ret (inb_r (thn_r ?_))
        refine fT (fun o => o) (.tmp _ _ _ _ rfl .nil) ?_ ?_
        · exact rfl
        · exact trivial
    have hnp : ¬ n <+: p := by simpa using h
    clear h
    rw [if_neg hnp]
    have hJ := kJoin_s p n hp hn
    have f2 := (fork_bits hpn hnp).2.1
    have hlt : (lcpL p n).length < n.length := by have := f2.length_le; simp at this; omega
    have hS := side_s (lcpL p n) n hlt hn
    generalize hj : lcpL p n = j at *
    cases hb : bitAt n j.length with
    | true =>
      rw [show bitN n j.length = 1 by unfold bitN; rw [hb]; rfl] at hS
      rw [if_pos rfl]
      refine awp_skip (awp_seq ?_)
      refine tx ?_
      refine r_pure (b_build pl146 zr146 rfl rfl) rfl rfl ?_
      refine r_run (a_box (X := .agg _) 83 rfl) rfl rfl ⟨rfl, trivial⟩ ?_
      refine r_pure (a_assign (r := .ref _ _)) rfl rfl ?_
      refine arun_nil ?_
      refine awp_seq ?_
      refine awp_draw 4 (by kernel_rfl) ?_
      refine r_pure (a_move (r := .ref _ _)) rfl rfl ?_
      refine mP rfl rfl ?_
      refine r_pure a_nilPt rfl rfl ?_
      refine r_pure (b_fieldAddrP fi146_0 rfl) rfl rfl ?_
      refine r_pure (a_loadNp Tryz.underlying52 rfl sz52 (by first | omega | (simp; done) | (simp; omega)) (rfl)) rfl rfl ?_
      refine lN Tryz.underlying52 rfl sz52 rfl rfl ⟨rfl, trivial⟩ ?_
      refine r_callV (fun n => 91 + 1000 * n) (hJ) rfl rfl Tryz.func100 rfl rfl (by first | rfl | simp [AV.noSl, AV.noSlL, AObj.noSl, PV.isV, bs_noSl]) (by first | rfl | simp [AV.noSl, AV.noSlL, AObj.noSl, PV.isV, bs_noSl]) rfl rfl rfl (by first | exact trivial | exact ⟨rfl, trivial⟩ | exact ⟨rfl, rfl, trivial⟩) rfl rfl rfl ?_
      refine r_pure (a_move (r := .tup _)) rfl rfl ?_
      refine r_pure (a_extract rfl) rfl rfl ?_
      refine r_pure (a_extract rfl) rfl rfl ?_
      refine r_pure a_nilRef rfl rfl ?_
      refine fA fi146_0 rfl rfl ?_
      refine r_run (a_store (Y := .agg _) sz52 rfl (by first | exact Nat.eq_of_beq_eq_true rfl | (simp only [AV.cells, List.length_map]; first | assumption | omega)) (by first | exact Nat.le_of_ble_eq_true rfl | omega | (simp only [AV.cells, List.length_map]; omega)) (by first | (simp only [setR, AV.cells, List.take_succ_cons, List.take_zero, List.drop_succ_cons, List.drop_zero, List.drop_nil, List.take_nil, List.nil_append, List.cons_append, List.append_nil, List.length_cons, List.length_nil, Nat.reduceAdd, Nat.zero_add, Nat.add_zero]; rfl) | rfl)) rfl rfl ⟨rfl, trivial⟩ ?_
      refine arun_nil ⟨by kernel_rfl, ?_⟩
      refine awp_seq ?_
      refine awp_draw 4 (by kernel_rfl) ?_
      refine r_pure (a_move (r := .ref _ _)) rfl rfl ?_
      refine r_pure a_nilRef rfl rfl ?_
      refine fA fi146_0 rfl rfl ?_
      refine lN Tryz.underlying52 rfl sz52 rfl rfl ⟨rfl, trivial⟩ ?_
      refine lN Tryz.underlying52 rfl sz52 rfl rfl ⟨rfl, trivial⟩ ?_
      refine r_callV (fun n => 101 + 1000 * n) (hS) rfl rfl Tryz.func99 rfl rfl (by first | rfl | simp [AV.noSl, AV.noSlL, AObj.noSl, PV.isV, bs_noSl]) (by first | rfl | simp [AV.noSl, AV.noSlL, AObj.noSl, PV.isV, bs_noSl]) rfl rfl rfl (by first | exact trivial | exact ⟨rfl, trivial⟩ | exact ⟨rfl, rfl, trivial⟩) rfl rfl rfl ?_
      refine aP rfl rfl ?_
      refine arun_nil ⟨by kernel_rfl, ?_⟩
      refine awp_seq ?_
      refine awp_draw 4 (by kernel_rfl) ?_
      refine r_pure (a_move (r := .ref _ _)) rfl rfl ?_
      refine mP rfl rfl ?_
      refine r_pure (a_move (r := .ref _ _)) rfl rfl ?_
      refine mP rfl rfl ?_
      refine r_pure (a_sub (by first | exact IntWalk.i64_in _ (by omega) | rfl)) rfl rfl ?_
      refine r_pure (a_move (r := .ref _ _)) rfl rfl ?_
      refine mP rfl rfl ?_
      refine r_pure a_nilRef rfl rfl ?_
      refine fA fi146_2 rfl rfl ?_
      refine r_pure (a_indexAddrA Tryz.underlying144 sz100 (by omega) (by omega) (by first | (simp only [Int.toNat_natCast, Nat.mul_one, Nat.zero_add]; rfl) | rfl)) rfl rfl ?_
      refine r_run (a_store (Y := .ref _ _) sz100 rfl (by first | exact Nat.eq_of_beq_eq_true rfl | (simp only [AV.cells, List.length_map]; first | assumption | omega)) (by first | exact Nat.le_of_ble_eq_true rfl | omega | (simp only [AV.cells, List.length_map]; omega)) (by first | (simp only [setR, AV.cells, List.take_succ_cons, List.take_zero, List.drop_succ_cons, List.drop_zero, List.drop_nil, List.take_nil, List.nil_append, List.cons_append, List.append_nil, List.length_cons, List.length_nil, Nat.reduceAdd, Nat.zero_add, Nat.add_zero]; rfl) | rfl)) rfl rfl ⟨rfl, trivial⟩ ?_
      refine r_pure a_nilRef rfl rfl ?_
      refine fA fi146_2 rfl rfl ?_
      refine r_pure (a_indexAddrA Tryz.underlying144 sz100 (by omega) (by omega) (by first | (simp only [Int.toNat_natCast, Nat.mul_one, Nat.zero_add]; rfl) | rfl)) rfl rfl ?_
      refine r_run (a_store (Y := .p _) sz100 rfl (by first | exact Nat.eq_of_beq_eq_true rfl | (simp only [AV.cells, List.length_map]; first | assumption | omega)) (by first | exact Nat.le_of_ble_eq_true rfl | omega | (simp only [AV.cells, List.length_map]; omega)) (by first | (simp only [setR, AV.cells, List.take_succ_cons, List.take_zero, List.drop_succ_cons, List.drop_zero, List.drop_nil, List.take_nil, List.nil_append, List.cons_append, List.append_nil, List.length_cons, List.length_nil, Nat.reduceAdd, Nat.zero_add, Nat.add_zero]; rfl) | rfl)) rfl rfl ⟨rfl, trivial⟩ ?_
      refine arun_nil ⟨by kernel_rfl, ?_⟩
      refine thn_n (awp_reO (reo_fz (cs := [.v (.int .u32 (addrK n)), .v (.int .i64 n.length), .v (.string o), .v (.pointer none), .v (.pointer none)]) 15 rfl rfl) ?_)
      refine awp_reO (reo_fz (cs := [.v (.int .u32 (addrK j)), .v (.int .i64 j.length), .v (.string ⟨#[]⟩), .pt [.v (.int .u32 (addrK p)), .v (.int .i64 p.length), .v (.string q), trP l, trP r], .pt [.v (.int .u32 (addrK n)), .v (.int .i64 n.length), .v (.string o), .v (.pointer none), .v (.pointer none)]]) 83 rfl rfl) ?_
      refine awp_seq ?_
      refine tx ?_
      refine mP rfl rfl ?_
      refine aP rfl rfl ?_
      refine arun_nil ?_
      refine awp_ret ?_
      refine fT (fun o => o) (.tmp _ _ _ _ rfl .nil) ?_ ?_
      · exact rfl
      · exact trivial
    | false =>
      rw [show bitN n j.length = 0 by unfold bitN; rw [hb]; rfl] at hS
      rw [if_neg (by simp)]
      refine awp_skip (awp_seq ?_)
      refine tx ?_
      refine r_pure (b_build pl146 zr146 rfl rfl) rfl rfl ?_
      refine r_run (a_box (X := .agg _) 83 rfl) rfl rfl ⟨rfl, trivial⟩ ?_
      refine r_pure (a_assign (r := .ref _ _)) rfl rfl ?_
      refine arun_nil ?_
      refine awp_seq ?_
      refine awp_draw 4 (by kernel_rfl) ?_
      refine r_pure (a_move (r := .ref _ _)) rfl rfl ?_
      refine mP rfl rfl ?_
      refine r_pure a_nilPt rfl rfl ?_
      refine r_pure (b_fieldAddrP fi146_0 rfl) rfl rfl ?_
      refine r_pure (a_loadNp Tryz.underlying52 rfl sz52 (by first | omega | (simp; done) | (simp; omega)) (rfl)) rfl rfl ?_
      refine lN Tryz.underlying52 rfl sz52 rfl rfl ⟨rfl, trivial⟩ ?_
      refine r_callV (fun n => 91 + 1000 * n) (hJ) rfl rfl Tryz.func100 rfl rfl (by first | rfl | simp [AV.noSl, AV.noSlL, AObj.noSl, PV.isV, bs_noSl]) (by first | rfl | simp [AV.noSl, AV.noSlL, AObj.noSl, PV.isV, bs_noSl]) rfl rfl rfl (by first | exact trivial | exact ⟨rfl, trivial⟩ | exact ⟨rfl, rfl, trivial⟩) rfl rfl rfl ?_
      refine r_pure (a_move (r := .tup _)) rfl rfl ?_
      refine r_pure (a_extract rfl) rfl rfl ?_
      refine r_pure (a_extract rfl) rfl rfl ?_
      refine r_pure a_nilRef rfl rfl ?_
      refine fA fi146_0 rfl rfl ?_
      refine r_run (a_store (Y := .agg _) sz52 rfl (by first | exact Nat.eq_of_beq_eq_true rfl | (simp only [AV.cells, List.length_map]; first | assumption | omega)) (by first | exact Nat.le_of_ble_eq_true rfl | omega | (simp only [AV.cells, List.length_map]; omega)) (by first | (simp only [setR, AV.cells, List.take_succ_cons, List.take_zero, List.drop_succ_cons, List.drop_zero, List.drop_nil, List.take_nil, List.nil_append, List.cons_append, List.append_nil, List.length_cons, List.length_nil, Nat.reduceAdd, Nat.zero_add, Nat.add_zero]; rfl) | rfl)) rfl rfl ⟨rfl, trivial⟩ ?_
      refine arun_nil ⟨by kernel_rfl, ?_⟩
      refine awp_seq ?_
      refine awp_draw 4 (by kernel_rfl) ?_
      refine r_pure (a_move (r := .ref _ _)) rfl rfl ?_
      refine r_pure a_nilRef rfl rfl ?_
      refine fA fi146_0 rfl rfl ?_
      refine lN Tryz.underlying52 rfl sz52 rfl rfl ⟨rfl, trivial⟩ ?_
      refine lN Tryz.underlying52 rfl sz52 rfl rfl ⟨rfl, trivial⟩ ?_
      refine r_callV (fun n => 101 + 1000 * n) (hS) rfl rfl Tryz.func99 rfl rfl (by first | rfl | simp [AV.noSl, AV.noSlL, AObj.noSl, PV.isV, bs_noSl]) (by first | rfl | simp [AV.noSl, AV.noSlL, AObj.noSl, PV.isV, bs_noSl]) rfl rfl rfl (by first | exact trivial | exact ⟨rfl, trivial⟩ | exact ⟨rfl, rfl, trivial⟩) rfl rfl rfl ?_
      refine aP rfl rfl ?_
      refine arun_nil ⟨by kernel_rfl, ?_⟩
      refine awp_seq ?_
      refine awp_draw 4 (by kernel_rfl) ?_
      refine r_pure (a_move (r := .ref _ _)) rfl rfl ?_
      refine mP rfl rfl ?_
      refine r_pure (a_move (r := .ref _ _)) rfl rfl ?_
      refine mP rfl rfl ?_
      refine r_pure (a_sub (by first | exact IntWalk.i64_in _ (by omega) | rfl)) rfl rfl ?_
      refine r_pure (a_move (r := .ref _ _)) rfl rfl ?_
      refine mP rfl rfl ?_
      refine r_pure a_nilRef rfl rfl ?_
      refine fA fi146_2 rfl rfl ?_
      refine r_pure (a_indexAddrA Tryz.underlying144 sz100 (by omega) (by omega) (by first | (simp only [Int.toNat_natCast, Nat.mul_one, Nat.zero_add]; rfl) | rfl)) rfl rfl ?_
      refine r_run (a_store (Y := .ref _ _) sz100 rfl (by first | exact Nat.eq_of_beq_eq_true rfl | (simp only [AV.cells, List.length_map]; first | assumption | omega)) (by first | exact Nat.le_of_ble_eq_true rfl | omega | (simp only [AV.cells, List.length_map]; omega)) (by first | (simp only [setR, AV.cells, List.take_succ_cons, List.take_zero, List.drop_succ_cons, List.drop_zero, List.drop_nil, List.take_nil, List.nil_append, List.cons_append, List.append_nil, List.length_cons, List.length_nil, Nat.reduceAdd, Nat.zero_add, Nat.add_zero]; rfl) | rfl)) rfl rfl ⟨rfl, trivial⟩ ?_
      refine r_pure a_nilRef rfl rfl ?_
      refine fA fi146_2 rfl rfl ?_
      refine r_pure (a_indexAddrA Tryz.underlying144 sz100 (by omega) (by omega) (by first | (simp only [Int.toNat_natCast, Nat.mul_one, Nat.zero_add]; rfl) | rfl)) rfl rfl ?_
      refine r_run (a_store (Y := .p _) sz100 rfl (by first | exact Nat.eq_of_beq_eq_true rfl | (simp only [AV.cells, List.length_map]; first | assumption | omega)) (by first | exact Nat.le_of_ble_eq_true rfl | omega | (simp only [AV.cells, List.length_map]; omega)) (by first | (simp only [setR, AV.cells, List.take_succ_cons, List.take_zero, List.drop_succ_cons, List.drop_zero, List.drop_nil, List.take_nil, List.nil_append, List.cons_append, List.append_nil, List.length_cons, List.length_nil, Nat.reduceAdd, Nat.zero_add, Nat.add_zero]; rfl) | rfl)) rfl rfl ⟨rfl, trivial⟩ ?_
      refine arun_nil ⟨by kernel_rfl, ?_⟩
      refine thn_n (awp_reO (reo_fz (cs := [.v (.int .u32 (addrK n)), .v (.int .i64 n.length), .v (.string o), .v (.pointer none), .v (.pointer none)]) 15 rfl rfl) ?_)
      refine awp_reO (reo_fz (cs := [.v (.int .u32 (addrK j)), .v (.int .i64 j.length), .v (.string ⟨#[]⟩), .pt [.v (.int .u32 (addrK n)), .v (.int .i64 n.length), .v (.string o), .v (.pointer none), .v (.pointer none)], .pt [.v (.int .u32 (addrK p)), .v (.int .i64 p.length), .v (.string q), trP l, trP r]]) 83 rfl rfl) ?_
      refine awp_seq ?_
      refine tx ?_
      refine mP rfl rfl ?_
      refine aP rfl rfl ?_
      refine arun_nil ?_
      refine awp_ret ?_
      refine fT (fun o => o) (.tmp _ _ _ _ rfl .nil) ?_ ?_
      · exact rfl
      · exact trivial
end Go.Proofs.YtgpleldhddpcgaaGreatDoor
