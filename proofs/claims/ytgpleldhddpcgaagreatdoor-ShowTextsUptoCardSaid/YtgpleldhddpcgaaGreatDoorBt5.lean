/- batch.Print, the reference's BatchText, the law BatchPrints, over data. -/
import Derived.Test.YtgpleldhddpcgaaGreatDoorBt4
import Derived.Test.YtgpleldhddpcgaaGreatDoorSe
import Derived.Test.YtgpleldhddpcgaaGreatDoorLn2
--%T
namespace Go.Proofs.YtgpleldhddpcgaaGreatDoor
open Go.RowKit Go.Sort
set_option linter.unusedVariables false
set_option linter.unusedSimpArgs false
set_option maxRecDepth 100000

theorem ntX_size (a b : Int) : (ntX a b).size ≤ 29 := by
  unfold ntX
  split
  · rename_i h
    obtain ⟨h0, h1⟩ := netFault_bits h
    have := adT_size a
    have := (itoS_size b h0 (by omega)).2
    unfold ntT
    rw [cat_size, cat_size, show SLASH.size = 1 from rfl]
    omega
  · exact Nat.zero_le _
theorem zeros_size : ZEROS.size = 64 := by decide +kernel
theorem seL_size {s : SE} (ok : s.OK) (h : seE s = 0) : (seL s).size ≤ 4294967281 := by
  have hv := seE_V h
  unfold seV at hv
  unfold seL
  by_cases hn : isN s.k = true
  · rw [if_pos hn] at hv ⊢
    have : ¬ (s.n < 0 ∨ 65535 < s.n) := by
      intro h2
      rw [if_pos h2] at hv
      cases hv
    have := (itoS_size s.n (by omega) (by omega)).2
    omega
  rw [if_neg hn]
  split
  · decide
  · split
    · have := ntX_size s.a s.b
      omega
    · split
      · rw [zeros_size]; omega
      · have := ok.t
        omega
theorem word_size (k : Int) : (word k).size ≤ 29 := by
  unfold word WORDS
  rw [List.getD_eq_getElem?_getD]
  have : ∀ w ∈ [W0, W1, W2, W3, W4, W5, W6, W7, W8, W9, W10], w.size ≤ 29 := by decide +kernel
  cases h : [W0, W1, W2, W3, W4, W5, W6, W7, W8, W9, W10][k.toNat]? with
  | none => exact Nat.zero_le 29
  | some w => exact this w (List.mem_of_getElem? h)
def seG (l : List SE) (i : Nat) : SE := l.getD i ⟨0, ⟨#[]⟩, 0, 0, 0⟩
theorem seG_at {l : List SE} {i : Nat} {s : SE} (h : l[i]? = some s) : seG l i = s := by unfold seG; rw [List.getD_eq_getElem?_getD, h]; rfl
def seLn (s : SE) : LnP := (word s.k, seL s)
def psE (l : List SE) : Int := fnz (fun i => seE (seG l i)) l.length
def psR (l : List SE) : AV := if psE l = 0 then jV (joinE (l.map seLn)) (joinT (l.map seLn)) else .tup [.p (.v (.string ⟨#[]⟩)), .p (.v (.int .i64 (psE l)))]
theorem seLn_next {l : List SE} {i : Nat} {s : SE} (hi : l[i]? = some s) : ((l.take (i + 1)).map seLn).flatMap lnC = ((l.take i).map seLn).flatMap lnC ++ [.v (.string (word s.k)), .v (.string (seL s))] := by
  obtain ⟨h1, h2⟩ := List.getElem?_eq_some_iff.1 hi
  rw [List.take_succ_eq_append_getElem h1, h2, List.map_append, List.flatMap_append]
  rfl
set_option maxHeartbeats 4000000 in
theorem print_s (l : List SE) (ok : ∀ s ∈ l, s.OK) (hn : l.length ≤ 1048576) : Fn Tryz.prog 26 [.p (.sl l.length 5 (l.flatMap SE.pv))] (psR l) [] := by
  have hR : psR l = if psE l = 0 then jV (joinE (l.map seLn)) (joinT (l.map seLn)) else .tup [.p (.v (.string ⟨#[]⟩)), .p (.v (.int .i64 (psE l)))] := rfl
  generalize psR l = R at *
  unfold psE at hR
  obtain ⟨f, hF⟩ : ∃ f, (fun i => seE (seG l i)) = f := ⟨_, rfl⟩
  rw [hF] at hR
  refine fn_intro Tryz.func26 rfl (Nat.le_of_ble_eq_true rfl) fun w0 A => ?_
  refine awp_seq ?_
  refine tx ?_
  refine aP rfl rfl ?_
  refine aP rfl rfl ?_
  refine arun_nil ?_
  refine awp_seq ?_
  refine tx ?_
  refine aP rfl rfl ?_
  refine arun_nil ?_
  refine awp_seq (awp_seq ?_)
  refine tx ?_
  refine mP rfl rfl ?_
  refine r_pure (a_lenS Tryz.underlying33) rfl rfl ?_
  refine mP rfl rfl ?_
  refine arun_nil ?_
  refine thn_n (awp_re (re_nil 4 100 111 2 rfl rfl) ?_)
  refine awp_block ?_
  refine awp_loopR (fun m st => ∃ i : Nat, m + i = l.length ∧ (∀ j, j < i → f j = 0) ∧ st = St.of [(4, .row 100), (9, .p (.sl l.length 5 (l.flatMap SE.pv))), (10, .p (.v (.int .i64 l.length))), (11, .p (.v (.int .i64 i)))] [(100, .row 111 2 i (((l.take i).map seLn).flatMap lnC))]) l.length ?_ ?_
  · refine ⟨_, re_of id _ _ ?_ ?_ rfl, 0, by omega, by omega, rfl⟩
    · (repeat (first | exact trivial | (refine ⟨⟨(by first | rfl | (simp; done) | (simp; omega)), rfl⟩, ?_⟩)))
    · exact ⟨⟨rfl, rfl⟩, trivial⟩
  rintro m st ⟨i, hi, hf, rfl⟩
  refine awp_seq ?_
  refine tx ?_
  refine r_pure a_lss rfl rfl ?_
  refine arun_nil ?_
  refine awp_seq ?_
  refine awp_cond _ rfl (fun h => ?_) (fun h => ?_)
  · have hlt : i < l.length := by simp at h; omega
    clear h
    obtain ⟨s, hs⟩ : ∃ s, l[i]? = some s := ⟨l[i], List.getElem?_eq_getElem hlt⟩
    have hch := chunk_at (f := SE.pv) (k := 5) (fun _ => rfl) hs
    have hle := chunk_le (f := SE.pv) (k := 5) (fun _ => rfl) hlt
    have hC := bline_s s (ok s (List.mem_of_getElem? hs))
    have hnx := seLn_next hs
    have hfi : f i = seE s := by rw [← hF]; show seE (seG l i) = _; rw [seG_at hs]
    have hhit := @fnz_hit f i l.length hf hlt
    have hsR : seR s = if seE s = 0 then .tup [.agg [.p (.v (.string (word s.k))), .p (.v (.string (seL s)))], .p (.v (.int .i64 0))] else .tup [.agg [.p (.v (.string ⟨#[]⟩)), .p (.v (.string ⟨#[]⟩))], .p (.v (.int .i64 (seE s)))] := rfl
    generalize seE s = e at *
    generalize seR s = rr at *
    generalize word s.k = w at *
    generalize seL s = v at *
    obtain ⟨k, t, n, a, b⟩ := s
    change Fn Tryz.prog _ [.agg [.p (.v (.int .i64 k)), .p (.v (.string t)), .p (.v (.int .i64 n)), .p (.v (.int .u32 a)), .p (.v (.int .i64 b))]] _ _ at hC
    change _ = [PV.v (.int .i64 k), .v (.string t), .v (.int .i64 n), .v (.int .u32 a), .v (.int .i64 b)] at hch
    generalize hL : l.flatMap SE.pv = L at *
    have hlen : (((l.take i).map seLn).flatMap lnC).length = i * 2 := by rw [chunk_len (f := lnC) (k := 2) (fun _ => rfl), List.length_map, List.length_take]; congr 1; omega
    by_cases he : e = 0
    · rw [if_pos he] at hsR
      subst hsR
      refine awp_skip (awp_seq (awp_block (awp_seq ?_)))
      refine tx ?_
      refine r_pure (a_indexAddrS Tryz.underlying33 sz86 (by omega) (by omega) rfl) rfl rfl ?_
      refine r_pure (a_loadNp Tryz.underlying86 rfl sz86 (by rw [List.length_drop]; omega) (hch)) rfl rfl ?_
      refine r_run (a_alloc 6 zr86 rfl) rfl rfl ⟨rfl, trivial⟩ ?_
      refine r_run (a_storeAll (Y := .agg [.p (.v (.int .i64 k)), .p (.v (.string t)), .p (.v (.int .i64 n)), .p (.v (.int .u32 a)), .p (.v (.int .i64 b))]) sz86 rfl rfl (Nat.eq_of_beq_eq_true rfl)) rfl rfl ⟨rfl, trivial⟩ ?_
      refine arun_nil ?_
      refine awp_seq ?_
      refine tx ?_
      refine lN Tryz.underlying86 rfl sz86 rfl rfl ⟨rfl, trivial⟩ ?_
      refine r_callS (fun n => 17 + 1000 * n) (hC) rfl rfl Tryz.func66 rfl rfl (by first | rfl | simp [AV.okInL, AV.okIn, okInL_map]) rfl rfl rfl (by first | exact trivial | exact ⟨rfl, trivial⟩ | exact ⟨rfl, rfl, trivial⟩) rfl rfl rfl ?_
      refine r_pure (a_move (r := .tup _)) rfl rfl ?_
      refine r_pure (a_extract rfl) rfl rfl ?_
      refine r_pure (a_extract rfl) rfl rfl ?_
      refine r_run (a_alloc 7 zr111 rfl) rfl rfl ⟨rfl, trivial⟩ ?_
      refine r_run (a_storeAll (Y := .agg _) sz111 rfl (by first | exact Nat.eq_of_beq_eq_true rfl | (simp only [AV.cells, List.length_map]; first | assumption | omega)) (Nat.eq_of_beq_eq_true rfl)) rfl rfl ⟨rfl, trivial⟩ ?_
      refine aP rfl rfl ?_
      refine arun_nil ?_
      refine awp_seq (awp_seq ?_)
      refine tx ?_
      refine mP rfl rfl ?_
      refine r_pure a_neqT rfl rfl ?_
      refine arun_nil ?_
      refine thn_n ?_
      refine awp_cond _ rfl (fun h => ?_) (fun h => ?_)
      · cases h
      generalize ((l.take i).map seLn).flatMap lnC = P0 at *
      refine awp_skip (thn_n ?_)
      refine tx ?_
      refine r_pure (a_move (r := .row _)) rfl rfl ?_
      refine lN Tryz.underlying111 rfl sz111 rfl rfl ⟨rfl, trivial⟩ ?_
      refine r_run (xs := [.agg [.p (.v (.string w)), .p (.v (.string v))]]) (a_buildSlice (es := [.p (.v (.string w)), .p (.v (.string v))]) (cs := [.v (.string w), .v (.string v)]) 25 Tryz.underlying109 sz111 zc111 (Nat.le_of_ble_eq_true rfl) (Nat.le_of_ble_eq_true rfl) rfl (by kernel_rfl) (by kernel_rfl) (by kernel_rfl) (Nat.le_of_ble_eq_true rfl)) (by first | rfl | kernel_rfl) rfl ⟨rfl, trivial⟩ ?_
      refine r_run (a_append 26 Tryz.underlying109 eo111 (src_row) (by simp only [maxLen]; omega) (by omega) (show _ = i + 1 by omega) hnx.symm) rfl rfl ⟨rfl, rfl, rfl, trivial⟩ ?_
      refine r_pure (a_assign (r := .row _)) rfl rfl ?_
      refine arun_nil ?_
      refine inb_n (thn_n ?_)
      refine tx ?_
      refine r_pure (a_add (by first | exact IntWalk.i64_in _ (by omega) | rfl)) rfl rfl ?_
      refine mP rfl rfl ?_
      refine arun_nil ?_
      refine thn_n ?_
      refine ⟨m - 1, by omega, _, re_of (fun _ => 26) _ _ ?_ ?_ rfl, i + 1, by omega, fun j hj => ?_, rfl⟩
      · (repeat (first | exact trivial | (refine ⟨⟨(by first | rfl | (simp; done) | (simp; omega)), rfl⟩, ?_⟩)))
      · exact ⟨⟨rfl, rfl⟩, trivial⟩
      · by_cases ej : j = i
        · rw [ej, hfi, he]
        · exact hf j (by omega)
    · rw [if_neg he] at hsR
      subst hsR
      rw [hhit (by rw [hfi]; exact he), hfi, if_neg he] at hR
      subst hR
      refine awp_skip (awp_seq (awp_block (awp_seq ?_)))
      refine tx ?_
      refine r_pure (a_indexAddrS Tryz.underlying33 sz86 (by omega) (by omega) rfl) rfl rfl ?_
      refine r_pure (a_loadNp Tryz.underlying86 rfl sz86 (by rw [List.length_drop]; omega) (hch)) rfl rfl ?_
      refine r_run (a_alloc 6 zr86 rfl) rfl rfl ⟨rfl, trivial⟩ ?_
      refine r_run (a_storeAll (Y := .agg [.p (.v (.int .i64 k)), .p (.v (.string t)), .p (.v (.int .i64 n)), .p (.v (.int .u32 a)), .p (.v (.int .i64 b))]) sz86 rfl rfl (Nat.eq_of_beq_eq_true rfl)) rfl rfl ⟨rfl, trivial⟩ ?_
      refine arun_nil ?_
      refine awp_seq ?_
      refine tx ?_
      refine lN Tryz.underlying86 rfl sz86 rfl rfl ⟨rfl, trivial⟩ ?_
      refine r_callS (fun n => 17 + 1000 * n) (hC) rfl rfl Tryz.func66 rfl rfl (by first | rfl | simp [AV.okInL, AV.okIn, okInL_map]) rfl rfl rfl (by first | exact trivial | exact ⟨rfl, trivial⟩ | exact ⟨rfl, rfl, trivial⟩) rfl rfl rfl ?_
      refine r_pure (a_move (r := .tup _)) rfl rfl ?_
      refine r_pure (a_extract rfl) rfl rfl ?_
      refine r_pure (a_extract rfl) rfl rfl ?_
      refine r_run (a_alloc 7 zr111 rfl) rfl rfl ⟨rfl, trivial⟩ ?_
      refine r_run (a_storeAll (Y := .agg _) sz111 rfl (by first | exact Nat.eq_of_beq_eq_true rfl | (simp only [AV.cells, List.length_map]; first | assumption | omega)) (Nat.eq_of_beq_eq_true rfl)) rfl rfl ⟨rfl, trivial⟩ ?_
      refine aP rfl rfl ?_
      refine arun_nil ?_
      refine awp_seq (awp_seq ?_)
      refine tx ?_
      refine mP rfl rfl ?_
      refine r_pure a_neq rfl rfl ?_
      refine arun_nil ?_
      refine thn_n ?_
      refine awp_cond _ rfl (fun h => ?_) (fun h => ?_)
      · refine awp_seq ?_
        refine tx ?_
        refine mP rfl rfl ?_
        refine aP rfl rfl ?_
        refine aP rfl rfl ?_
        refine arun_nil ?_
        refine awp_ret (thn_r (inb_r (thn_r (thn_r (inb_r (thn_r ?_))))))
        refine fT (fun o => o) (.tmp _ _ _ _ rfl (.tmp _ _ _ _ rfl .nil)) ?_ ?_
        · exact rfl
        · exact trivial
      · exact absurd (by simpa using h) he
  have hge : i = l.length := by simp at h; omega
  clear h
  subst hge
  rw [fnz_ok hf, if_pos rfl] at hR
  rw [List.take_length]
  have hOK : lnOK (l.map seLn) := by
    intro p hp
    obtain ⟨s, hs, rfl⟩ := List.mem_map.1 hp
    obtain ⟨j, hj, he⟩ := List.mem_iff_getElem.1 hs
    have h0 : seE s = 0 := by
      have h1 := hf j hj
      rw [← hF] at h1
      rw [← seG_at (show l[j]? = some s by rw [List.getElem?_eq_getElem hj, he])]
      exact h1
    have h1 := word_size s.k
    have h2 := seL_size (ok s hs) h0
    exact ⟨by show (word s.k).size ≤ _; omega, by show (seL s).size ≤ _; omega⟩
  have hJ := ljoin_s (l.map seLn) hOK (by rw [List.length_map]; omega)
  rw [List.length_map] at hJ
  unfold jV at hJ hR
  generalize joinT (l.map seLn) = T at *
  generalize joinE (l.map seLn) = E at *
  generalize (l.map seLn).flatMap lnC = C at *
  subst hR
  refine awp_exit (awp_seq ?_)
  refine tx ?_
  refine r_pure (a_move (r := .row _)) rfl rfl ?_
  refine r_callV (fun n => 29 + 1000 * n) (hJ) rfl rfl Tryz.func67 rfl rfl (by first | rfl | simp [AV.noSl, AV.noSlL, AObj.noSl, PV.isV, bs_noSl]) (by first | rfl | simp [AV.noSl, AV.noSlL, AObj.noSl, PV.isV, bs_noSl]) rfl rfl rfl (by first | exact trivial | exact ⟨rfl, trivial⟩ | exact ⟨rfl, rfl, trivial⟩) rfl rfl rfl ?_
  refine r_pure (a_extract rfl) rfl rfl ?_
  refine r_pure (a_extract rfl) rfl rfl ?_
  refine aP rfl rfl ?_
  refine aP rfl rfl ?_
  refine arun_nil ?_
  refine awp_ret ?_
  refine fT (fun o => o) (.tmp _ _ _ _ rfl (.tmp _ _ _ _ rfl .nil)) ?_ ?_
  · exact rfl
  · exact trivial
set_option maxHeartbeats 4000000 in
theorem refPrint_s (l : List SE) (ok : ∀ s ∈ l, s.OK) (hn : l.length ≤ 1048576) : Fn Tryz.prog 28 [.p (.sl l.length 5 (l.flatMap SE.pv))] (psR l) [] := by
  have hR : psR l = if psE l = 0 then jV (joinE (l.map seLn)) (joinT (l.map seLn)) else .tup [.p (.v (.string ⟨#[]⟩)), .p (.v (.int .i64 (psE l)))] := rfl
  generalize psR l = R at *
  unfold psE at hR
  obtain ⟨f, hF⟩ : ∃ f, (fun i => seE (seG l i)) = f := ⟨_, rfl⟩
  rw [hF] at hR
  refine fn_intro Tryz.func28 rfl (Nat.le_of_ble_eq_true rfl) fun w0 A => ?_
  refine awp_seq ?_
  refine tx ?_
  refine aP rfl rfl ?_
  refine aP rfl rfl ?_
  refine arun_nil ?_
  refine awp_seq ?_
  refine tx ?_
  refine aP rfl rfl ?_
  refine arun_nil ?_
  refine awp_seq (awp_seq ?_)
  refine tx ?_
  refine mP rfl rfl ?_
  refine r_pure (a_lenS Tryz.underlying33) rfl rfl ?_
  refine mP rfl rfl ?_
  refine arun_nil ?_
  refine thn_n (awp_re (re_nil 4 100 111 2 rfl rfl) ?_)
  refine awp_block ?_
  refine awp_loopR (fun m st => ∃ i : Nat, m + i = l.length ∧ (∀ j, j < i → f j = 0) ∧ st = St.of [(4, .row 100), (9, .p (.sl l.length 5 (l.flatMap SE.pv))), (10, .p (.v (.int .i64 l.length))), (11, .p (.v (.int .i64 i)))] [(100, .row 111 2 i (((l.take i).map seLn).flatMap lnC))]) l.length ?_ ?_
  · refine ⟨_, re_of id _ _ ?_ ?_ rfl, 0, by omega, by omega, rfl⟩
    · (repeat (first | exact trivial | (refine ⟨⟨(by first | rfl | (simp; done) | (simp; omega)), rfl⟩, ?_⟩)))
    · exact ⟨⟨rfl, rfl⟩, trivial⟩
  rintro m st ⟨i, hi, hf, rfl⟩
  refine awp_seq ?_
  refine tx ?_
  refine r_pure a_lss rfl rfl ?_
  refine arun_nil ?_
  refine awp_seq ?_
  refine awp_cond _ rfl (fun h => ?_) (fun h => ?_)
  · have hlt : i < l.length := by simp at h; omega
    clear h
    obtain ⟨s, hs⟩ : ∃ s, l[i]? = some s := ⟨l[i], List.getElem?_eq_getElem hlt⟩
    have hch := chunk_at (f := SE.pv) (k := 5) (fun _ => rfl) hs
    have hle := chunk_le (f := SE.pv) (k := 5) (fun _ => rfl) hlt
    have hC := refLine_s s (ok s (List.mem_of_getElem? hs))
    have hnx := seLn_next hs
    have hfi : f i = seE s := by rw [← hF]; show seE (seG l i) = _; rw [seG_at hs]
    have hhit := @fnz_hit f i l.length hf hlt
    have hsR : seR s = if seE s = 0 then .tup [.agg [.p (.v (.string (word s.k))), .p (.v (.string (seL s)))], .p (.v (.int .i64 0))] else .tup [.agg [.p (.v (.string ⟨#[]⟩)), .p (.v (.string ⟨#[]⟩))], .p (.v (.int .i64 (seE s)))] := rfl
    generalize seE s = e at *
    generalize seR s = rr at *
    generalize word s.k = w at *
    generalize seL s = v at *
    obtain ⟨k, t, n, a, b⟩ := s
    change Fn Tryz.prog _ [.agg [.p (.v (.int .i64 k)), .p (.v (.string t)), .p (.v (.int .i64 n)), .p (.v (.int .u32 a)), .p (.v (.int .i64 b))]] _ _ at hC
    change _ = [PV.v (.int .i64 k), .v (.string t), .v (.int .i64 n), .v (.int .u32 a), .v (.int .i64 b)] at hch
    generalize hL : l.flatMap SE.pv = L at *
    have hlen : (((l.take i).map seLn).flatMap lnC).length = i * 2 := by rw [chunk_len (f := lnC) (k := 2) (fun _ => rfl), List.length_map, List.length_take]; congr 1; omega
    by_cases he : e = 0
    · rw [if_pos he] at hsR
      subst hsR
      refine awp_skip (awp_seq (awp_block (awp_seq ?_)))
      refine tx ?_
      refine r_pure (a_indexAddrS Tryz.underlying33 sz86 (by omega) (by omega) rfl) rfl rfl ?_
      refine r_pure (a_loadNp Tryz.underlying86 rfl sz86 (by rw [List.length_drop]; omega) (hch)) rfl rfl ?_
      refine r_run (a_alloc 6 zr86 rfl) rfl rfl ⟨rfl, trivial⟩ ?_
      refine r_run (a_storeAll (Y := .agg [.p (.v (.int .i64 k)), .p (.v (.string t)), .p (.v (.int .i64 n)), .p (.v (.int .u32 a)), .p (.v (.int .i64 b))]) sz86 rfl rfl (Nat.eq_of_beq_eq_true rfl)) rfl rfl ⟨rfl, trivial⟩ ?_
      refine arun_nil ?_
      refine awp_seq ?_
      refine tx ?_
      refine lN Tryz.underlying86 rfl sz86 rfl rfl ⟨rfl, trivial⟩ ?_
      refine r_callS (fun n => 17 + 1000 * n) (hC) rfl rfl Tryz.func69 rfl rfl (by first | rfl | simp [AV.okInL, AV.okIn, okInL_map]) rfl rfl rfl (by first | exact trivial | exact ⟨rfl, trivial⟩ | exact ⟨rfl, rfl, trivial⟩) rfl rfl rfl ?_
      refine r_pure (a_move (r := .tup _)) rfl rfl ?_
      refine r_pure (a_extract rfl) rfl rfl ?_
      refine r_pure (a_extract rfl) rfl rfl ?_
      refine r_run (a_alloc 7 zr111 rfl) rfl rfl ⟨rfl, trivial⟩ ?_
      refine r_run (a_storeAll (Y := .agg _) sz111 rfl (by first | exact Nat.eq_of_beq_eq_true rfl | (simp only [AV.cells, List.length_map]; first | assumption | omega)) (Nat.eq_of_beq_eq_true rfl)) rfl rfl ⟨rfl, trivial⟩ ?_
      refine aP rfl rfl ?_
      refine arun_nil ?_
      refine awp_seq (awp_seq ?_)
      refine tx ?_
      refine mP rfl rfl ?_
      refine r_pure a_neqT rfl rfl ?_
      refine arun_nil ?_
      refine thn_n ?_
      refine awp_cond _ rfl (fun h => ?_) (fun h => ?_)
      · cases h
      generalize ((l.take i).map seLn).flatMap lnC = P0 at *
      refine awp_skip (thn_n ?_)
      refine tx ?_
      refine r_pure (a_move (r := .row _)) rfl rfl ?_
      refine lN Tryz.underlying111 rfl sz111 rfl rfl ⟨rfl, trivial⟩ ?_
      refine r_run (xs := [.agg [.p (.v (.string w)), .p (.v (.string v))]]) (a_buildSlice (es := [.p (.v (.string w)), .p (.v (.string v))]) (cs := [.v (.string w), .v (.string v)]) 25 Tryz.underlying109 sz111 zc111 (Nat.le_of_ble_eq_true rfl) (Nat.le_of_ble_eq_true rfl) rfl (by kernel_rfl) (by kernel_rfl) (by kernel_rfl) (Nat.le_of_ble_eq_true rfl)) (by first | rfl | kernel_rfl) rfl ⟨rfl, trivial⟩ ?_
      refine r_run (a_append 26 Tryz.underlying109 eo111 (src_row) (by simp only [maxLen]; omega) (by omega) (show _ = i + 1 by omega) hnx.symm) rfl rfl ⟨rfl, rfl, rfl, trivial⟩ ?_
      refine r_pure (a_assign (r := .row _)) rfl rfl ?_
      refine arun_nil ?_
      refine inb_n (thn_n ?_)
      refine tx ?_
      refine r_pure (a_add (by first | exact IntWalk.i64_in _ (by omega) | rfl)) rfl rfl ?_
      refine mP rfl rfl ?_
      refine arun_nil ?_
      refine thn_n ?_
      refine ⟨m - 1, by omega, _, re_of (fun _ => 26) _ _ ?_ ?_ rfl, i + 1, by omega, fun j hj => ?_, rfl⟩
      · (repeat (first | exact trivial | (refine ⟨⟨(by first | rfl | (simp; done) | (simp; omega)), rfl⟩, ?_⟩)))
      · exact ⟨⟨rfl, rfl⟩, trivial⟩
      · by_cases ej : j = i
        · rw [ej, hfi, he]
        · exact hf j (by omega)
    · rw [if_neg he] at hsR
      subst hsR
      rw [hhit (by rw [hfi]; exact he), hfi, if_neg he] at hR
      subst hR
      refine awp_skip (awp_seq (awp_block (awp_seq ?_)))
      refine tx ?_
      refine r_pure (a_indexAddrS Tryz.underlying33 sz86 (by omega) (by omega) rfl) rfl rfl ?_
      refine r_pure (a_loadNp Tryz.underlying86 rfl sz86 (by rw [List.length_drop]; omega) (hch)) rfl rfl ?_
      refine r_run (a_alloc 6 zr86 rfl) rfl rfl ⟨rfl, trivial⟩ ?_
      refine r_run (a_storeAll (Y := .agg [.p (.v (.int .i64 k)), .p (.v (.string t)), .p (.v (.int .i64 n)), .p (.v (.int .u32 a)), .p (.v (.int .i64 b))]) sz86 rfl rfl (Nat.eq_of_beq_eq_true rfl)) rfl rfl ⟨rfl, trivial⟩ ?_
      refine arun_nil ?_
      refine awp_seq ?_
      refine tx ?_
      refine lN Tryz.underlying86 rfl sz86 rfl rfl ⟨rfl, trivial⟩ ?_
      refine r_callS (fun n => 17 + 1000 * n) (hC) rfl rfl Tryz.func69 rfl rfl (by first | rfl | simp [AV.okInL, AV.okIn, okInL_map]) rfl rfl rfl (by first | exact trivial | exact ⟨rfl, trivial⟩ | exact ⟨rfl, rfl, trivial⟩) rfl rfl rfl ?_
      refine r_pure (a_move (r := .tup _)) rfl rfl ?_
      refine r_pure (a_extract rfl) rfl rfl ?_
      refine r_pure (a_extract rfl) rfl rfl ?_
      refine r_run (a_alloc 7 zr111 rfl) rfl rfl ⟨rfl, trivial⟩ ?_
      refine r_run (a_storeAll (Y := .agg _) sz111 rfl (by first | exact Nat.eq_of_beq_eq_true rfl | (simp only [AV.cells, List.length_map]; first | assumption | omega)) (Nat.eq_of_beq_eq_true rfl)) rfl rfl ⟨rfl, trivial⟩ ?_
      refine aP rfl rfl ?_
      refine arun_nil ?_
      refine awp_seq (awp_seq ?_)
      refine tx ?_
      refine mP rfl rfl ?_
      refine r_pure a_neq rfl rfl ?_
      refine arun_nil ?_
      refine thn_n ?_
      refine awp_cond _ rfl (fun h => ?_) (fun h => ?_)
      · refine awp_seq ?_
        refine tx ?_
        refine mP rfl rfl ?_
        refine aP rfl rfl ?_
        refine aP rfl rfl ?_
        refine arun_nil ?_
        refine awp_ret (thn_r (inb_r (thn_r (thn_r (inb_r (thn_r ?_))))))
        refine fT (fun o => o) (.tmp _ _ _ _ rfl (.tmp _ _ _ _ rfl .nil)) ?_ ?_
        · exact rfl
        · exact trivial
      · exact absurd (by simpa using h) he
  have hge : i = l.length := by simp at h; omega
  clear h
  subst hge
  rw [fnz_ok hf, if_pos rfl] at hR
  rw [List.take_length]
  have hOK : lnOK (l.map seLn) := by
    intro p hp
    obtain ⟨s, hs, rfl⟩ := List.mem_map.1 hp
    obtain ⟨j, hj, he⟩ := List.mem_iff_getElem.1 hs
    have h0 : seE s = 0 := by
      have h1 := hf j hj
      rw [← hF] at h1
      rw [← seG_at (show l[j]? = some s by rw [List.getElem?_eq_getElem hj, he])]
      exact h1
    have h1 := word_size s.k
    have h2 := seL_size (ok s hs) h0
    exact ⟨by show (word s.k).size ≤ _; omega, by show (seL s).size ≤ _; omega⟩
  have hJ := refLText_s (l.map seLn) hOK (by rw [List.length_map]; omega)
  rw [List.length_map] at hJ
  unfold jV at hJ hR
  generalize joinT (l.map seLn) = T at *
  generalize joinE (l.map seLn) = E at *
  generalize (l.map seLn).flatMap lnC = C at *
  subst hR
  refine awp_exit (awp_seq ?_)
  refine tx ?_
  refine r_pure (a_move (r := .row _)) rfl rfl ?_
  refine r_callV (fun n => 29 + 1000 * n) (hJ) rfl rfl Tryz.func70 rfl rfl (by first | rfl | simp [AV.noSl, AV.noSlL, AObj.noSl, PV.isV, bs_noSl]) (by first | rfl | simp [AV.noSl, AV.noSlL, AObj.noSl, PV.isV, bs_noSl]) rfl rfl rfl (by first | exact trivial | exact ⟨rfl, trivial⟩ | exact ⟨rfl, rfl, trivial⟩) rfl rfl rfl ?_
  refine r_pure (a_extract rfl) rfl rfl ?_
  refine r_pure (a_extract rfl) rfl rfl ?_
  refine aP rfl rfl ?_
  refine aP rfl rfl ?_
  refine arun_nil ?_
  refine awp_ret ?_
  refine fT (fun o => o) (.tmp _ _ _ _ rfl (.tmp _ _ _ _ rfl .nil)) ?_ ?_
  · exact rfl
  · exact trivial
end Go.Proofs.YtgpleldhddpcgaaGreatDoor
