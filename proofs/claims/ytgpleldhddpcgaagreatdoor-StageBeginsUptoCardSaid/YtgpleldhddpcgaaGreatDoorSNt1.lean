/- net.Text, net.Parse, their references, the law NetTells, over data. -/
import Derived.Test.YtgpleldhddpcgaaGreatDoorSNetZ
import Derived.Test.YtgpleldhddpcgaaGreatDoorSAd4
namespace Go.Proofs.YtgpleldhddpcgaaGreatDoor
open Go.RowKit Go.Sort
set_option linter.unusedVariables false
set_option linter.unusedSimpArgs false
set_option maxRecDepth 100000
theorem adA_in (s : ByteArray) : 0 ≤ adA s ∧ adA s < 4294967296 := by
  unfold adA
  split
  · rename_i h
    unfold adOk at h
    simp only [Bool.and_eq_true, decide_eq_true_eq, List.all_eq_true] at h
    have hl := spl_len s 46
    have h2 := adN_lt (l := spl s 46) (i := 4) (fun q hq => h.2 q (List.mem_of_mem_take hq)) (by omega)
    rw [List.take_of_length_le (by omega)] at h2
    omega
  · omega
def SLASH : ByteArray := ⟨#[47]⟩
def ntT (a n : Int) : ByteArray := adT a ++ SLASH ++ itoS n
def ntX (a n : Int) : ByteArray := if netFault a n = 0 then ntT a n else ⟨#[]⟩
def ntR (a n : Int) : AV := .tup [.p (.v (.string (ntX a n))), .p (.v (.int .i64 (netFault a n)))]
theorem netFault_bits {a n : Int} (h : netFault a n = 0) : 0 ≤ n ∧ n ≤ 32 := ⟨(netFault_ok h).1, (netFault_ok h).2.1⟩
set_option maxHeartbeats 1000000 in
theorem ntText_s (a n : Int) (h2 : 0 ≤ a) (h3 : a < 4294967296) : Fn Tryz.prog 148 [.agg (netA a n)] (ntR a n) [] := by
  have hC := nCheck_s a n h2 h3
  have hT := adText_s a h2 h3
  have hz := adT_size a
  have hbits := @netFault_bits a n
  have hX : ntX a n = if netFault a n = 0 then ntT a n else ⟨#[]⟩ := rfl
  unfold ntR
  generalize ntX a n = X at *
  have hNt : ntT a n = adT a ++ SLASH ++ itoS n := rfl
  generalize ntT a n = Z at *
  generalize netFault a n = e at *
  generalize adT a = T at *
  change Fn Tryz.prog _ [.agg [.p (.v (.int .u32 a)), .p (.v (.int .i64 n))]] _ _
  change Fn Tryz.prog _ [.agg [.p (.v (.int .u32 a)), .p (.v (.int .i64 n))]] _ _ at hC
  refine fn_intro Tryz.func148 rfl (Nat.le_of_ble_eq_true rfl) fun w0 A => ?_
  refine awp_seq ?_
  refine tx ?_
  refine r_run (a_box (X := .agg _) 1 rfl) rfl rfl ⟨rfl, trivial⟩ ?_
  refine aP rfl rfl ?_
  refine aP rfl rfl ?_
  refine arun_nil ?_
  refine awp_seq (awp_seq ?_)
  refine tx ?_
  refine lN Tryz.underlying52 rfl sz52 rfl rfl ⟨rfl, trivial⟩ ?_
  refine r_callV (fun n => 6 + 1000 * n) (hC) rfl rfl Tryz.func57 rfl rfl (by first | rfl | simp [AV.noSl, AV.noSlL, AObj.noSl, PV.isV, bs_noSl]) (by first | rfl | simp [AV.noSl, AV.noSlL, AObj.noSl, PV.isV, bs_noSl]) rfl rfl rfl (by first | exact trivial | exact ⟨rfl, trivial⟩ | exact ⟨rfl, rfl, trivial⟩) rfl rfl rfl ?_
  refine aP rfl rfl ?_
  refine arun_nil ?_
  refine awp_seq ?_
  refine tx ?_
  refine mP rfl rfl ?_
  refine r_pure a_neq rfl rfl ?_
  refine arun_nil ?_
  refine thn_n ?_
  refine awp_cond _ rfl (fun h => ?_) (fun h => ?_)
  · have h1 : e ≠ 0 := by simpa using h
    rw [if_neg h1] at hX
    subst hX
    refine awp_seq ?_
    refine tx ?_
    refine mP rfl rfl ?_
    refine aP rfl rfl ?_
    refine aP rfl rfl ?_
    refine arun_nil ?_
    refine awp_ret (thn_r ?_)
    refine fT (fun o => o) (.tmp _ _ _ _ rfl (.tmp _ _ _ _ rfl .nil)) ?_ ?_
    · exact rfl
    · exact trivial
  have h1 : e = 0 := by simpa using h
  clear h
  rw [if_pos h1] at hX
  subst hX
  obtain ⟨n0, n1⟩ := hbits h1
  have hI := itoa_s n (by omega) (by omega)
  have hs := itoS_size n n0 (by omega)
  generalize itoS n = N at *
  have hd : SLASH.size = 1 := rfl
  obtain ⟨u0, e0⟩ : ∃ u, T ++ SLASH = u := ⟨_, rfl⟩
  have y0 : u0.size ≤ 24 := by rw [← e0, cat_size]; omega
  rw [e0] at hNt
  rw [h1, hNt]
  refine awp_skip (awp_seq ?_)
  refine awp_draw 4 (by kernel_rfl) ?_
  refine fA fi52_0 rfl rfl ?_
  refine l1 Tryz.underlying50 rfl rfl rfl ⟨rfl, trivial⟩ ?_
  refine r_callS (fun n => 12 + 1000 * n) (hT) rfl rfl Tryz.func170 rfl rfl (by first | rfl | simp [AV.okInL, AV.okIn, okInL_map]) rfl rfl rfl (by first | exact trivial | exact ⟨rfl, trivial⟩ | exact ⟨rfl, rfl, trivial⟩) rfl rfl rfl ?_
  refine r_pure (a_cat (by show T.size + 1 ≤ _; omega) e0) rfl rfl ?_
  refine fA fi52_1 rfl rfl ?_
  refine l1 Tryz.underlying3 rfl rfl rfl ⟨rfl, trivial⟩ ?_
  refine r_callS (fun n => 16 + 1000 * n) (hI) rfl rfl Tryz.func113 rfl rfl (by first | rfl | simp [AV.okInL, AV.okIn, okInL_map]) rfl rfl rfl (by first | exact trivial | exact ⟨rfl, trivial⟩ | exact ⟨rfl, rfl, trivial⟩) rfl rfl rfl ?_
  refine r_pure (a_cat (by omega) rfl) rfl rfl ?_
  refine aP rfl rfl ?_
  refine aP rfl rfl ?_
  refine arun_nil ⟨by kernel_rfl, ?_⟩
  refine awp_ret ?_
  refine fT (fun o => o) (.tmp _ _ _ _ rfl (.tmp _ _ _ _ rfl .nil)) ?_ ?_
  · exact rfl
  · exact trivial
set_option maxHeartbeats 1000000 in
theorem refNtText_s (a n : Int) (h2 : 0 ≤ a) (h3 : a < 4294967296) : Fn Tryz.prog 114 [.agg (netA a n)] (ntR a n) [] := by
  have hC := nrFault_s a n h2 h3
  have hT := refAdText_s a h2 h3
  have hz := adT_size a
  have hbits := @netFault_bits a n
  have hX : ntX a n = if netFault a n = 0 then ntT a n else ⟨#[]⟩ := rfl
  unfold ntR
  generalize ntX a n = X at *
  have hNt : ntT a n = adT a ++ SLASH ++ itoS n := rfl
  generalize ntT a n = Z at *
  generalize netFault a n = e at *
  generalize adT a = T at *
  change Fn Tryz.prog _ [.agg [.p (.v (.int .u32 a)), .p (.v (.int .i64 n))]] _ _
  change Fn Tryz.prog _ [.agg [.p (.v (.int .u32 a)), .p (.v (.int .i64 n))]] _ _ at hC
  refine fn_intro Tryz.func114 rfl (Nat.le_of_ble_eq_true rfl) fun w0 A => ?_
  refine awp_seq ?_
  refine tx ?_
  refine r_run (a_box (X := .agg _) 1 rfl) rfl rfl ⟨rfl, trivial⟩ ?_
  refine aP rfl rfl ?_
  refine aP rfl rfl ?_
  refine arun_nil ?_
  refine awp_seq (awp_seq ?_)
  refine tx ?_
  refine lN Tryz.underlying52 rfl sz52 rfl rfl ⟨rfl, trivial⟩ ?_
  refine r_callV (fun n => 6 + 1000 * n) (hC) rfl rfl Tryz.func104 rfl rfl (by first | rfl | simp [AV.noSl, AV.noSlL, AObj.noSl, PV.isV, bs_noSl]) (by first | rfl | simp [AV.noSl, AV.noSlL, AObj.noSl, PV.isV, bs_noSl]) rfl rfl rfl (by first | exact trivial | exact ⟨rfl, trivial⟩ | exact ⟨rfl, rfl, trivial⟩) rfl rfl rfl ?_
  refine aP rfl rfl ?_
  refine arun_nil ?_
  refine awp_seq ?_
  refine tx ?_
  refine mP rfl rfl ?_
  refine r_pure a_neq rfl rfl ?_
  refine arun_nil ?_
  refine thn_n ?_
  refine awp_cond _ rfl (fun h => ?_) (fun h => ?_)
  · have h1 : e ≠ 0 := by simpa using h
    rw [if_neg h1] at hX
    subst hX
    refine awp_seq ?_
    refine tx ?_
    refine mP rfl rfl ?_
    refine aP rfl rfl ?_
    refine aP rfl rfl ?_
    refine arun_nil ?_
    refine awp_ret (thn_r ?_)
    refine fT (fun o => o) (.tmp _ _ _ _ rfl (.tmp _ _ _ _ rfl .nil)) ?_ ?_
    · exact rfl
    · exact trivial
  have h1 : e = 0 := by simpa using h
  clear h
  rw [if_pos h1] at hX
  subst hX
  obtain ⟨n0, n1⟩ := hbits h1
  have hI := itoa_s n (by omega) (by omega)
  have hs := itoS_size n n0 (by omega)
  generalize itoS n = N at *
  have hd : SLASH.size = 1 := rfl
  obtain ⟨u0, e0⟩ : ∃ u, T ++ SLASH = u := ⟨_, rfl⟩
  have y0 : u0.size ≤ 24 := by rw [← e0, cat_size]; omega
  rw [e0] at hNt
  rw [h1, hNt]
  refine awp_skip (awp_seq ?_)
  refine awp_draw 4 (by kernel_rfl) ?_
  refine fA fi52_0 rfl rfl ?_
  refine l1 Tryz.underlying50 rfl rfl rfl ⟨rfl, trivial⟩ ?_
  refine r_callS (fun n => 12 + 1000 * n) (hT) rfl rfl Tryz.func150 rfl rfl (by first | rfl | simp [AV.okInL, AV.okIn, okInL_map]) rfl rfl rfl (by first | exact trivial | exact ⟨rfl, trivial⟩ | exact ⟨rfl, rfl, trivial⟩) rfl rfl rfl ?_
  refine r_pure (a_cat (by show T.size + 1 ≤ _; omega) e0) rfl rfl ?_
  refine fA fi52_1 rfl rfl ?_
  refine l1 Tryz.underlying3 rfl rfl rfl ⟨rfl, trivial⟩ ?_
  refine r_callS (fun n => 16 + 1000 * n) (hI) rfl rfl Tryz.func113 rfl rfl (by first | rfl | simp [AV.okInL, AV.okIn, okInL_map]) rfl rfl rfl (by first | exact trivial | exact ⟨rfl, trivial⟩ | exact ⟨rfl, rfl, trivial⟩) rfl rfl rfl ?_
  refine r_pure (a_cat (by omega) rfl) rfl rfl ?_
  refine aP rfl rfl ?_
  refine aP rfl rfl ?_
  refine arun_nil ⟨by kernel_rfl, ?_⟩
  refine awp_ret ?_
  refine fT (fun o => o) (.tmp _ _ _ _ rfl (.tmp _ _ _ _ rfl .nil)) ?_ ?_
  · exact rfl
  · exact trivial
def npA (s : ByteArray) : Int := adA (cutA s 47)
def npN (s : ByteArray) : Int := numV (cutZ s 47) 32
def npOk (s : ByteArray) : Prop := 0 ≤ ixB s 47 ∧ adE (cutA s 47) = 0 ∧ numE (cutZ s 47) 32 = 0 ∧ netFault (npA s) (npN s) = 0
instance npOk_dec (s : ByteArray) : Decidable (npOk s) := by unfold npOk; infer_instance
def npR (s : ByteArray) : AV := if npOk s then .tup [.agg (netA (npA s) (npN s)), .p (.v (.int .i64 0))] else .tup [.agg (netA 0 0), .p (.v (.int .i64 3))]
set_option maxHeartbeats 1000000 in
theorem ntParse_s (s : ByteArray) (hs : s.size < 4294967281) : Fn Tryz.prog 121 [.p (.v (.string s))] (npR s) [] := by
  have hK := cut1_s s 47 (by omega)
  have zA := cutA_size s 47
  have zZ := cutZ_size s 47
  have hP := parse_s (cutA s 47) (by omega)
  have hN := number_s (cutZ s 47) 32 (by omega)
  have hE : npOk s ↔ 0 ≤ ixB s 47 ∧ adE (cutA s 47) = 0 ∧ numE (cutZ s 47) 32 = 0 ∧ netFault (npA s) (npN s) = 0 := Iff.rfl
  have hR1 : npOk s → npR s = .tup [.agg (netA (npA s) (npN s)), .p (.v (.int .i64 0))] := fun h => if_pos h
  have hR2 : ¬ npOk s → npR s = .tup [.agg (netA 0 0), .p (.v (.int .i64 3))] := fun h => if_neg h
  obtain ⟨a0, a1⟩ := adA_in (cutA s 47)
  have hC := nCheck_s (npA s) (npN s) a0 a1
  rw [adR_eq] at hP
  unfold numR at hN
  change Fn Tryz.prog _ _ (.tup [.p (.v (.int .u32 (npA s))), _]) _ at hP
  change Fn Tryz.prog _ _ (.tup [.p (.v (.int .i64 (npN s))), _]) _ at hN
  generalize npR s = R at *
  generalize ixB s 47 = ix at *
  generalize adE (cutA s 47) = e1 at *
  generalize netFault (npA s) (npN s) = e3 at *
  generalize npA s = a at *
  generalize numE (cutZ s 47) 32 = e2 at *
  generalize npN s = n at *
  generalize cutA s 47 = A at *
  generalize cutZ s 47 = Z at *
  change Fn Tryz.prog _ [.agg [.p (.v (.int .u32 a)), .p (.v (.int .i64 n))]] _ _ at hC
  refine fn_intro Tryz.func121 rfl (Nat.le_of_ble_eq_true rfl) fun w0 A => ?_
  refine awp_seq ?_
  refine tx ?_
  refine r_run (a_alloc 2 zr52 rfl) rfl rfl ⟨rfl, trivial⟩ ?_
  refine aP rfl rfl ?_
  refine arun_nil ?_
  refine awp_seq ?_
  refine tx ?_
  refine mP rfl rfl ?_
  refine r_callV (fun n => 14 + 1000 * n) (hK) rfl rfl Tryz.func118 rfl rfl (by first | rfl | simp [AV.noSl, AV.noSlL, AObj.noSl, PV.isV, bs_noSl]) (by first | rfl | simp [AV.noSl, AV.noSlL, AObj.noSl, PV.isV, bs_noSl]) rfl rfl rfl (by first | exact trivial | exact ⟨rfl, trivial⟩ | exact ⟨rfl, rfl, trivial⟩) rfl rfl rfl ?_
  refine r_pure (a_move (r := .tup _)) rfl rfl ?_
  refine r_pure (a_extract rfl) rfl rfl ?_
  refine r_pure (a_extract rfl) rfl rfl ?_
  refine r_pure (a_extract rfl) rfl rfl ?_
  refine aP rfl rfl ?_
  refine aP rfl rfl ?_
  refine aP rfl rfl ?_
  refine arun_nil ?_
  refine awp_seq ?_
  refine tx ?_
  refine mP rfl rfl ?_
  refine r_callV (fun n => 20 + 1000 * n) (hP) rfl rfl Tryz.func138 rfl rfl (by first | rfl | simp [AV.noSl, AV.noSlL, AObj.noSl, PV.isV, bs_noSl]) (by first | rfl | simp [AV.noSl, AV.noSlL, AObj.noSl, PV.isV, bs_noSl]) rfl rfl rfl (by first | exact trivial | exact ⟨rfl, trivial⟩ | exact ⟨rfl, rfl, trivial⟩) rfl rfl rfl ?_
  refine r_pure (a_move (r := .tup _)) rfl rfl ?_
  refine r_pure (a_extract rfl) rfl rfl ?_
  refine r_pure (a_extract rfl) rfl rfl ?_
  refine aP rfl rfl ?_
  refine aP rfl rfl ?_
  refine arun_nil ?_
  refine awp_seq ?_
  refine tx ?_
  refine mP rfl rfl ?_
  refine r_callV (fun n => 25 + 1000 * n) (hN) rfl rfl Tryz.func119 rfl rfl (by first | rfl | simp [AV.noSl, AV.noSlL, AObj.noSl, PV.isV, bs_noSl]) (by first | rfl | simp [AV.noSl, AV.noSlL, AObj.noSl, PV.isV, bs_noSl]) rfl rfl rfl (by first | exact trivial | exact ⟨rfl, trivial⟩ | exact ⟨rfl, rfl, trivial⟩) rfl rfl rfl ?_
  refine r_pure (a_move (r := .tup _)) rfl rfl ?_
  refine r_pure (a_extract rfl) rfl rfl ?_
  refine r_pure (a_extract rfl) rfl rfl ?_
  refine aP rfl rfl ?_
  refine aP rfl rfl ?_
  refine arun_nil ?_
  refine awp_seq (awp_seq ?_)
  refine tx ?_
  refine mP rfl rfl ?_
  refine r_pure a_not rfl rfl ?_
  refine mP rfl rfl ?_
  refine mb2 _ rfl rfl (fun hb => (a_move (r := .p _))) (fun _ => trivial) ?_
  refine mb2 _ rfl rfl (fun hb => a_neq) (fun _ => trivial) ?_
  refine r_pure (a_or (by first | exact id | (simp; done) | grind)) rfl rfl ?_
  refine mP rfl rfl ?_
  refine mb2 _ rfl rfl (fun hb => (a_move (r := .p _))) (fun _ => trivial) ?_
  refine mb2 _ rfl rfl (fun hb => a_neq) (fun _ => trivial) ?_
  refine r_pure (a_or (by first | exact id | (simp; done) | grind)) rfl rfl ?_
  refine arun_nil ?_
  refine thn_n ?_
  refine awp_cond _ rfl (fun h => ?_) (fun h => ?_)
  · rw [hR2 (by rw [hE]; intro ⟨q1, q2, q3, q4⟩; simp at h; omega)]
    refine awp_seq ?_
    refine tx ?_
    refine r_pure (b_build pl52 zr52 rfl rfl) rfl rfl ?_
    refine r_run (a_storeAll (Y := .agg _) sz52 rfl (by first | exact Nat.eq_of_beq_eq_true rfl | (simp only [AV.cells, List.length_map]; first | assumption | omega)) (Nat.eq_of_beq_eq_true rfl)) rfl rfl ⟨rfl, trivial⟩ ?_
    refine aP rfl rfl ?_
    refine arun_nil ?_
    refine awp_ret (thn_r ?_)
    refine fT (fun o => o) (.cellN _ _ _ _ _ _ _ _ _ rfl rfl Tryz.underlying52 rfl sz52 (by first | assumption | kernel_rfl) (.tmp _ _ _ _ rfl .nil)) ?_ ?_
    · exact rfl
    · exact trivial
  have h1 : 0 ≤ ix ∧ e1 = 0 ∧ e2 = 0 := by simp at h; omega
  clear h
  refine awp_skip (awp_seq ?_)
  refine tx ?_
  refine mP rfl rfl ?_
  refine mP rfl rfl ?_
  refine r_pure (b_build pl52 zr52 rfl rfl) rfl rfl ?_
  refine r_run (a_alloc 11 zr52 rfl) rfl rfl ⟨rfl, trivial⟩ ?_
  refine r_run (a_storeAll (Y := .agg _) sz52 rfl (by first | exact Nat.eq_of_beq_eq_true rfl | (simp only [AV.cells, List.length_map]; first | assumption | omega)) (Nat.eq_of_beq_eq_true rfl)) rfl rfl ⟨rfl, trivial⟩ ?_
  refine arun_nil ?_
  refine awp_seq (awp_seq ?_)
  refine tx ?_
  refine lN Tryz.underlying52 rfl sz52 rfl rfl ⟨rfl, trivial⟩ ?_
  refine r_callV (fun n => 43 + 1000 * n) (hC) rfl rfl Tryz.func57 rfl rfl (by first | rfl | simp [AV.noSl, AV.noSlL, AObj.noSl, PV.isV, bs_noSl]) (by first | rfl | simp [AV.noSl, AV.noSlL, AObj.noSl, PV.isV, bs_noSl]) rfl rfl rfl (by first | exact trivial | exact ⟨rfl, trivial⟩ | exact ⟨rfl, rfl, trivial⟩) rfl rfl rfl ?_
  refine r_pure a_neq rfl rfl ?_
  refine arun_nil ?_
  refine thn_n ?_
  refine awp_cond _ rfl (fun h => ?_) (fun h => ?_)
  · rw [hR2 (by rw [hE]; intro ⟨q1, q2, q3, q4⟩; simp at h; omega)]
    refine awp_seq ?_
    refine tx ?_
    refine r_pure (b_build pl52 zr52 rfl rfl) rfl rfl ?_
    refine r_run (a_storeAll (Y := .agg _) sz52 rfl (by first | exact Nat.eq_of_beq_eq_true rfl | (simp only [AV.cells, List.length_map]; first | assumption | omega)) (Nat.eq_of_beq_eq_true rfl)) rfl rfl ⟨rfl, trivial⟩ ?_
    refine aP rfl rfl ?_
    refine arun_nil ?_
    refine awp_ret (thn_r ?_)
    refine fT (fun o => o) (.cellN _ _ _ _ _ _ _ _ _ rfl rfl Tryz.underlying52 rfl sz52 (by first | assumption | kernel_rfl) (.tmp _ _ _ _ rfl .nil)) ?_ ?_
    · exact rfl
    · exact trivial
  · rw [hR1 (by rw [hE]; simp at h; omega)]
    refine awp_skip (awp_seq ?_)
    refine tx ?_
    refine lN Tryz.underlying52 rfl sz52 rfl rfl ⟨rfl, trivial⟩ ?_
    refine r_run (a_storeAll (Y := .agg _) sz52 rfl (by first | exact Nat.eq_of_beq_eq_true rfl | (simp only [AV.cells, List.length_map]; first | assumption | omega)) (Nat.eq_of_beq_eq_true rfl)) rfl rfl ⟨rfl, trivial⟩ ?_
    refine aP rfl rfl ?_
    refine arun_nil ?_
    refine awp_ret ?_
    refine fT (fun o => o) (.cellN _ _ _ _ _ _ _ _ _ rfl rfl Tryz.underlying52 rfl sz52 (by first | assumption | kernel_rfl) (.tmp _ _ _ _ rfl .nil)) ?_ ?_
    · exact rfl
    · exact trivial
set_option maxHeartbeats 1000000 in
theorem refNtParse_s (s : ByteArray) (hs : s.size < 4294967281) : Fn Tryz.prog 125 [.p (.v (.string s))] (npR s) [] := by
  have hI := index1_s s 47
  have zA := cutA_size s 47
  have zZ := cutZ_size s 47
  have hP := refAddr_s (cutA s 47) (by omega)
  have hN := refNum_s (cutZ s 47) 32 (by omega)
  have hE : npOk s ↔ 0 ≤ ixB s 47 ∧ adE (cutA s 47) = 0 ∧ numE (cutZ s 47) 32 = 0 ∧ netFault (npA s) (npN s) = 0 := Iff.rfl
  have hR1 : npOk s → npR s = .tup [.agg (netA (npA s) (npN s)), .p (.v (.int .i64 0))] := fun h => if_pos h
  have hR2 : ¬ npOk s → npR s = .tup [.agg (netA 0 0), .p (.v (.int .i64 3))] := fun h => if_neg h
  have hA : 0 ≤ ixB s 47 → cutA s 47 = s.extract 0 (ixB s 47).toNat := fun h => if_pos h
  have hZ : 0 ≤ ixB s 47 → cutZ s 47 = s.extract ((ixB s 47).toNat + 1) s.size := fun h => if_pos h
  have hlt := ixB_lt s 47
  obtain ⟨a0, a1⟩ := adA_in (cutA s 47)
  have hC := nrFault_s (npA s) (npN s) a0 a1
  rw [adR_eq] at hP
  unfold numR at hN
  change Fn Tryz.prog _ _ (.tup [.p (.v (.int .u32 (npA s))), _]) _ at hP
  change Fn Tryz.prog _ _ (.tup [.p (.v (.int .i64 (npN s))), _]) _ at hN
  generalize npR s = R at *
  generalize ixB s 47 = ix at *
  generalize adE (cutA s 47) = e1 at *
  generalize netFault (npA s) (npN s) = e3 at *
  generalize npA s = a at *
  generalize numE (cutZ s 47) 32 = e2 at *
  generalize npN s = n at *
  generalize cutA s 47 = A at *
  generalize cutZ s 47 = Z at *
  change Fn Tryz.prog _ [.agg [.p (.v (.int .u32 a)), .p (.v (.int .i64 n))]] _ _ at hC
  refine fn_intro Tryz.func125 rfl (Nat.le_of_ble_eq_true rfl) fun w0 A => ?_
  refine awp_seq ?_
  refine tx ?_
  refine r_run (a_alloc 2 zr52 rfl) rfl rfl ⟨rfl, trivial⟩ ?_
  refine aP rfl rfl ?_
  refine arun_nil ?_
  refine awp_seq ?_
  refine tx ?_
  refine mP rfl rfl ?_
  refine r_callV (fun n => 10 + 1000 * n) (hI) rfl rfl Tryz.func123 rfl rfl (by first | rfl | simp [AV.noSl, AV.noSlL, AObj.noSl, PV.isV, bs_noSl]) (by first | rfl | simp [AV.noSl, AV.noSlL, AObj.noSl, PV.isV, bs_noSl]) rfl rfl rfl (by first | exact trivial | exact ⟨rfl, trivial⟩ | exact ⟨rfl, rfl, trivial⟩) rfl rfl rfl ?_
  refine aP rfl rfl ?_
  refine arun_nil ?_
  refine awp_seq (awp_seq ?_)
  refine tx ?_
  refine mP rfl rfl ?_
  refine r_pure a_lss rfl rfl ?_
  refine arun_nil ?_
  refine thn_n ?_
  refine awp_cond _ rfl (fun h => ?_) (fun h => ?_)
  · rw [hR2 (by rw [hE]; intro ⟨q1, q2, q3, q4⟩; simp at h; omega)]
    refine awp_seq ?_
    refine tx ?_
    refine r_pure (b_build pl52 zr52 rfl rfl) rfl rfl ?_
    refine r_run (a_storeAll (Y := .agg _) sz52 rfl (by first | exact Nat.eq_of_beq_eq_true rfl | (simp only [AV.cells, List.length_map]; first | assumption | omega)) (Nat.eq_of_beq_eq_true rfl)) rfl rfl ⟨rfl, trivial⟩ ?_
    refine aP rfl rfl ?_
    refine arun_nil ?_
    refine awp_ret (thn_r ?_)
    refine fT (fun o => o) (.cellN _ _ _ _ _ _ _ _ _ rfl rfl Tryz.underlying52 rfl sz52 (by first | assumption | kernel_rfl) (.tmp _ _ _ _ rfl .nil)) ?_ ?_
    · exact rfl
    · exact trivial
  have h0 : 0 ≤ ix := by simp at h; omega
  clear h
  have hA := hA h0
  have hZ := hZ h0
  obtain ⟨k, rfl⟩ := Int.eq_ofNat_of_zero_le h0
  rw [Int.toNat_natCast] at hA hZ
  refine awp_skip (awp_seq ?_)
  refine tx ?_
  refine mP rfl rfl ?_
  refine mP rfl rfl ?_
  refine r_pure (a_sliceStr (L := none) (H := (some (_, _))) Tryz.underlying9 rfl ⟨by omega, (show _ = k by omega)⟩ (by omega) (by omega) hA.symm) rfl rfl ?_
  refine r_callV (fun n => 18 + 1000 * n) (hP) rfl rfl Tryz.func146 rfl rfl (by first | rfl | simp [AV.noSl, AV.noSlL, AObj.noSl, PV.isV, bs_noSl]) (by first | rfl | simp [AV.noSl, AV.noSlL, AObj.noSl, PV.isV, bs_noSl]) rfl rfl rfl (by first | exact trivial | exact ⟨rfl, trivial⟩ | exact ⟨rfl, rfl, trivial⟩) rfl rfl rfl ?_
  refine r_pure (a_move (r := .tup _)) rfl rfl ?_
  refine r_pure (a_extract rfl) rfl rfl ?_
  refine r_pure (a_extract rfl) rfl rfl ?_
  refine aP rfl rfl ?_
  refine aP rfl rfl ?_
  refine arun_nil ?_
  refine awp_seq ?_
  refine tx ?_
  refine mP rfl rfl ?_
  refine mP rfl rfl ?_
  refine r_pure (a_add (by first | exact IntWalk.i64_in _ (by omega) | rfl)) rfl rfl ?_
  refine r_pure (a_sliceStr (L := (some (_, _))) (H := none) Tryz.underlying9 ⟨by omega, (show _ = k + 1 by omega)⟩ rfl (by omega) (by omega) hZ.symm) rfl rfl ?_
  refine r_callV (fun n => 26 + 1000 * n) (hN) rfl rfl Tryz.func124 rfl rfl (by first | rfl | simp [AV.noSl, AV.noSlL, AObj.noSl, PV.isV, bs_noSl]) (by first | rfl | simp [AV.noSl, AV.noSlL, AObj.noSl, PV.isV, bs_noSl]) rfl rfl rfl (by first | exact trivial | exact ⟨rfl, trivial⟩ | exact ⟨rfl, rfl, trivial⟩) rfl rfl rfl ?_
  refine r_pure (a_move (r := .tup _)) rfl rfl ?_
  refine r_pure (a_extract rfl) rfl rfl ?_
  refine r_pure (a_extract rfl) rfl rfl ?_
  refine aP rfl rfl ?_
  refine aP rfl rfl ?_
  refine arun_nil ?_
  refine awp_seq (awp_seq ?_)
  refine tx ?_
  refine mP rfl rfl ?_
  refine r_pure a_neq rfl rfl ?_
  refine mP rfl rfl ?_
  refine mb2 _ rfl rfl (fun hb => (a_move (r := .p _))) (fun _ => trivial) ?_
  refine mb2 _ rfl rfl (fun hb => a_neq) (fun _ => trivial) ?_
  refine r_pure (a_or (by first | exact id | (simp; done) | grind)) rfl rfl ?_
  refine mP rfl rfl ?_
  refine mb2 _ rfl rfl (fun hb => (a_move (r := .p _))) (fun _ => trivial) ?_
  refine mb2 _ rfl rfl (fun hb => (a_move (r := .p _))) (fun _ => trivial) ?_
  refine mb2 _ rfl rfl (fun hb => (b_build pl52 zr52 rfl rfl)) (fun _ => trivial) ?_
  refine mb2 _ rfl rfl (fun _ => a_callS0 Tryz.func104 rfl rfl (hC) (by first | rfl | simp [AV.okInL, AV.okIn, okInL_map]) rfl) (fun _ => trivial) ?_
  refine mb2 _ rfl rfl (fun hb => a_neq) (fun _ => trivial) ?_
  refine r_pure (a_or (by first | exact id | (simp; done) | grind)) rfl rfl ?_
  refine arun_nil ?_
  refine thn_n ?_
  refine awp_cond _ rfl (fun h => ?_) (fun h => ?_)
  · rw [hR2 (by rw [hE]; intro ⟨q1, q2, q3, q4⟩; simp at h; omega)]
    refine awp_seq ?_
    refine tx ?_
    refine r_pure (b_build pl52 zr52 rfl rfl) rfl rfl ?_
    refine r_run (a_storeAll (Y := .agg _) sz52 rfl (by first | exact Nat.eq_of_beq_eq_true rfl | (simp only [AV.cells, List.length_map]; first | assumption | omega)) (Nat.eq_of_beq_eq_true rfl)) rfl rfl ⟨rfl, trivial⟩ ?_
    refine aP rfl rfl ?_
    refine arun_nil ?_
    refine awp_ret (thn_r ?_)
    refine fT (fun o => o) (.cellN _ _ _ _ _ _ _ _ _ rfl rfl Tryz.underlying52 rfl sz52 (by first | assumption | kernel_rfl) (.tmp _ _ _ _ rfl .nil)) ?_ ?_
    · exact rfl
    · exact trivial
  · rw [hR1 (by rw [hE]; simp at h; omega)]
    refine awp_skip (awp_seq ?_)
    refine tx ?_
    refine mP rfl rfl ?_
    refine mP rfl rfl ?_
    refine r_pure (b_build pl52 zr52 rfl rfl) rfl rfl ?_
    refine r_run (a_storeAll (Y := .agg _) sz52 rfl (by first | exact Nat.eq_of_beq_eq_true rfl | (simp only [AV.cells, List.length_map]; first | assumption | omega)) (Nat.eq_of_beq_eq_true rfl)) rfl rfl ⟨rfl, trivial⟩ ?_
    refine aP rfl rfl ?_
    refine arun_nil ?_
    refine awp_ret ?_
    refine fT (fun o => o) (.cellN _ _ _ _ _ _ _ _ _ rfl rfl Tryz.underlying52 rfl sz52 (by first | assumption | kernel_rfl) (.tmp _ _ _ _ rfl .nil)) ?_ ?_
    · exact rfl
    · exact trivial
end Go.Proofs.YtgpleldhddpcgaaGreatDoor
