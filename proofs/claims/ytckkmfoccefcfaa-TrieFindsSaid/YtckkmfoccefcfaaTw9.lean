/- Tries, the references: without, TriePut, TrieGet, TrieDrop, TrieDropOwner, TrieFind; lists compared. -/
import Derived.Test.YtckkmfoccefcfaaTw6
import Derived.Test.YtckkmfoccefcfaaTw8
--%T
namespace Go.Proofs.Ytckkmfoccefcfaa
open Go.RowKit Go.Sort
set_option linter.unusedVariables false
set_option linter.unusedSimpArgs false
set_option maxRecDepth 100000

/-! lists compared -/
set_option maxHeartbeats 1000000 in
theorem nodesSame_s (l : List ND) (hz : l.length ≤ 4611686018427387904) : Fn Try.prog 54 [.p (ndsV l), .p (ndsV l)] (.p (.v (.bool true))) [] := by
  have hlnl := nds_len l
  refine fn_intro Try.func54 rfl (Nat.le_of_ble_eq_true rfl) fun w0 A => ?_
  refine awp_seq ?_
  refine awp_text (by kernel_rfl) ?_
  (refine r_pure (a_assign (r := .p _)) rfl rfl ?_)
  refine arun_nil ?_
  refine awp_seq (awp_seq ?_)
  refine awp_text (by kernel_rfl) ?_
  (refine r_pure (a_move (r := .p _)) rfl rfl ?_)
  (refine r_pure (a_lenS Try.underlying22) rfl rfl ?_)
  (refine r_pure (a_move (r := .p _)) rfl rfl ?_)
  (refine r_pure (a_lenS Try.underlying22) rfl rfl ?_)
  (refine r_pure a_neqT rfl rfl ?_)
  refine arun_nil ?_
  refine thn_n ?_
  refine awp_cond _ rfl (fun h => ?_) (fun h => ?_)
  · cases h
  clear h
  refine awp_skip (awp_seq (awp_seq ?_))
  refine awp_text (by kernel_rfl) ?_
  (refine r_pure (a_move (r := .p _)) rfl rfl ?_)
  (refine r_pure (a_lenS Try.underlying22) rfl rfl ?_)
  (refine r_pure (a_move (r := .p _)) rfl rfl ?_)
  refine arun_nil ?_
  refine awp_block ?_
  refine awp_loopR (fun m st => ∃ i : Nat, m + i = l.length ∧ st = St.of [(0, .p (ndsV l)), (1, .p (ndsV l)), (12, .p (.v (.int .i64 l.length))), (13, .p (.v (.int .i64 i)))] []) l.length ?_ ?_
  · refine ⟨_, re_of0 _ (by repeat (first | exact trivial | refine ⟨⟨rfl, rfl⟩, ?_⟩)), 0, by omega, rfl⟩
  rintro m st ⟨i, hi, rfl⟩
  refine awp_seq ?_
  refine awp_text (by kernel_rfl) ?_
  (refine r_pure a_lss rfl rfl ?_)
  refine arun_nil ?_
  refine awp_seq ?_
  refine awp_cond _ rfl (fun h => ?_) (fun h => ?_)
  · have hlt : i < l.length := by simp at h; omega
    clear h
    obtain ⟨x, hx⟩ : ∃ x, l[i]? = some x := ⟨l[i], List.getElem?_eq_getElem hlt⟩
    have hld := nds_at l i x hx
    refine awp_skip (awp_seq (awp_block (awp_seq ?_)))
    refine awp_text (by kernel_rfl) ?_
    (refine r_pure (a_move (r := .p _)) rfl rfl ?_)
    (refine r_pure (a_assign (r := .p _)) rfl rfl ?_)
    refine arun_nil ?_
    refine awp_seq ?_
    refine awp_draw 4 (by kernel_rfl) ?_
    (refine r_pure (a_move (r := .p _)) rfl rfl ?_)
    (refine r_pure (a_move (r := .p _)) rfl rfl ?_)
    (refine r_pure (a_indexAddrS Try.underlying22 sz72 (by omega) (by omega) rfl) rfl rfl ?_)
    (refine r_pure (a_loadNp Try.underlying72 rfl sz72 (by rw [List.length_drop, hlnl]; first | omega | (simp only [Int.toNat_natCast]; omega)) ((show _ = x.pv from hld))) rfl rfl ?_)
    (refine r_pure (a_move (r := .p _)) rfl rfl ?_)
    (refine r_pure (a_move (r := .p _)) rfl rfl ?_)
    (refine r_pure (a_indexAddrS Try.underlying22 sz72 (by omega) (by omega) rfl) rfl rfl ?_)
    (refine r_pure (a_loadNp Try.underlying72 rfl sz72 (by rw [List.length_drop, hlnl]; first | omega | (simp only [Int.toNat_natCast]; omega)) ((show _ = x.pv from hld))) rfl rfl ?_)
    (refine r_pure (a_stneT Try.underlying72 rfl (by kernel_rfl) (by kernel_rfl)) rfl rfl ?_)
    refine arun_nil ⟨by kernel_rfl, ?_⟩
    refine thn_n ?_
    refine awp_cond _ rfl (fun h => ?_) (fun h => ?_)
    · cases h
    · refine awp_skip (inb_n (thn_n ?_))
      refine awp_text (by kernel_rfl) ?_
      (refine r_pure (a_add (by first | exact IntWalk.i64_in _ (by omega) | rfl)) rfl rfl ?_)
      (refine r_pure (a_move (r := .p _)) rfl rfl ?_)
      refine arun_nil ?_
      refine thn_n ?_
      refine ⟨m - 1, by omega, _, re_of0 _ (by repeat (first | exact trivial | refine ⟨⟨rfl, rfl⟩, ?_⟩)), i + 1, by omega, rfl⟩
  · refine awp_exit (awp_seq ?_)
    refine awp_text (by kernel_rfl) ?_
    (refine r_pure (a_assign (r := .p _)) rfl rfl ?_)
    refine arun_nil ?_
    refine awp_ret ?_
    refine ⟨(by first | exact .inl rfl | exact .inr rfl), _, (fun o => o), (.tmp _ _ _ _ rfl .nil), ?_, rfl, ?_, rfl⟩
    · exact rfl
    · exact trivial
theorem nodesNil_s : Fn Try.prog 54 [.p (.v (.slice none 0 0)), .p (.v (.slice none 0 0))] (.p (.v (.bool true))) [] := by
  refine fn_intro Try.func54 rfl (Nat.le_of_ble_eq_true rfl) fun w0 A => ?_
  refine awp_seq ?_
  refine awp_text (by kernel_rfl) ?_
  (refine r_pure (a_assign (r := .p _)) rfl rfl ?_)
  refine arun_nil ?_
  refine awp_seq (awp_seq ?_)
  refine awp_text (by kernel_rfl) ?_
  (refine r_pure (a_move (r := .p _)) rfl rfl ?_)
  (refine r_pure (a_lenNil Try.underlying22) rfl rfl ?_)
  (refine r_pure (a_move (r := .p _)) rfl rfl ?_)
  (refine r_pure (a_lenNil Try.underlying22) rfl rfl ?_)
  (refine r_pure a_neqT rfl rfl ?_)
  refine arun_nil ?_
  refine thn_n ?_
  refine awp_cond _ rfl (fun h => ?_) (fun h => ?_)
  · cases h
  clear h
  refine awp_skip (awp_seq (awp_seq ?_))
  refine awp_text (by kernel_rfl) ?_
  (refine r_pure (a_move (r := .p _)) rfl rfl ?_)
  (refine r_pure (a_lenNil Try.underlying22) rfl rfl ?_)
  (refine r_pure (a_move (r := .p _)) rfl rfl ?_)
  refine arun_nil ?_
  refine awp_block ?_
  refine awp_loopR (fun m st => st = St.of [(0, .p (.v (.slice none 0 0))), (1, .p (.v (.slice none 0 0))), (12, .p (.v (.int .i64 0))), (13, .p (.v (.int .i64 0)))] []) 0 ?_ ?_
  · refine ⟨_, re_of0 _ (by repeat (first | exact trivial | refine ⟨⟨rfl, rfl⟩, ?_⟩)), rfl⟩
  rintro m st rfl
  refine awp_seq ?_
  refine awp_text (by kernel_rfl) ?_
  (refine r_pure a_lss rfl rfl ?_)
  refine arun_nil ?_
  refine awp_seq ?_
  refine awp_cond _ rfl (fun h => ?_) (fun h => ?_)
  · cases h
  · refine awp_exit (awp_seq ?_)
    refine awp_text (by kernel_rfl) ?_
    (refine r_pure (a_assign (r := .p _)) rfl rfl ?_)
    refine arun_nil ?_
    refine awp_ret ?_
    refine ⟨(by first | exact .inl rfl | exact .inr rfl), _, (fun o => o), (.tmp _ _ _ _ rfl .nil), ?_, rfl, ?_, rfl⟩
    · exact rfl
    · exact trivial
theorem sameNodes_s (l : List ND) (hz : l.length ≤ 4611686018427387904) : Fn Try.prog 20 [.p (ndsV l), .p (ndsV l)] (.p (.v (.bool true))) [] := by
  have hE := nodesSame_s l hz
  refine fn_intro Try.func20 rfl (Nat.le_of_ble_eq_true rfl) fun w0 A => ?_
  refine awp_seq ?_
  refine awp_text (by kernel_rfl) ?_
  (refine r_pure (a_assign (r := .p _)) rfl rfl ?_)
  refine arun_nil ?_
  refine awp_seq ?_
  refine awp_text (by kernel_rfl) ?_
  (refine r_pure (a_move (r := .p _)) rfl rfl ?_)
  (refine r_pure (a_move (r := .p _)) rfl rfl ?_)
  (refine r_callV (fun n => 7 + 1000 * n) (hE) rfl rfl Try.func54 rfl rfl (by first | rfl | simp [AV.noSl, AV.noSlL, AObj.noSl, PV.isV, bs_noSl]) (by first | rfl | simp [AV.noSl, AV.noSlL, AObj.noSl, PV.isV, bs_noSl]) rfl rfl rfl (by first | exact trivial | exact ⟨rfl, trivial⟩ | exact ⟨rfl, rfl, trivial⟩) rfl rfl rfl ?_)
  (refine r_pure (a_assign (r := .p _)) rfl rfl ?_)
  refine arun_nil ?_
  refine awp_ret ?_
  refine ⟨(by first | exact .inl rfl | exact .inr rfl), _, (fun o => o), (.tmp _ _ _ _ rfl .nil), ?_, rfl, ?_, rfl⟩
  · exact rfl
  · exact trivial
theorem sameNodesNil_s : Fn Try.prog 20 [.p (.v (.slice none 0 0)), .p (.v (.slice none 0 0))] (.p (.v (.bool true))) [] := by
  have hE := nodesNil_s
  refine fn_intro Try.func20 rfl (Nat.le_of_ble_eq_true rfl) fun w0 A => ?_
  refine awp_seq ?_
  refine awp_text (by kernel_rfl) ?_
  (refine r_pure (a_assign (r := .p _)) rfl rfl ?_)
  refine arun_nil ?_
  refine awp_seq ?_
  refine awp_text (by kernel_rfl) ?_
  (refine r_pure (a_move (r := .p _)) rfl rfl ?_)
  (refine r_pure (a_move (r := .p _)) rfl rfl ?_)
  (refine r_callV (fun n => 7 + 1000 * n) (hE) rfl rfl Try.func54 rfl rfl (by first | rfl | simp [AV.noSl, AV.noSlL, AObj.noSl, PV.isV, bs_noSl]) (by first | rfl | simp [AV.noSl, AV.noSlL, AObj.noSl, PV.isV, bs_noSl]) rfl rfl rfl (by first | exact trivial | exact ⟨rfl, trivial⟩ | exact ⟨rfl, rfl, trivial⟩) rfl rfl rfl ?_)
  (refine r_pure (a_assign (r := .p _)) rfl rfl ?_)
  refine arun_nil ?_
  refine awp_ret ?_
  refine ⟨(by first | exact .inl rfl | exact .inr rfl), _, (fun o => o), (.tmp _ _ _ _ rfl .nil), ?_, rfl, ?_, rfl⟩
  · exact rfl
  · exact trivial

/-! without what is told so -/
theorem filter_take {K : List (Key × Own)} {f : Key × Own → Bool} {i : Nat} {x : Key × Own} (h : K[i]? = some x) : (K.take (i + 1)).filter f = (K.take i).filter f ++ if f x = true then [x] else [] := by
  obtain ⟨hi, rfl⟩ := List.getElem?_eq_some_iff.1 h
  rw [List.take_succ_eq_append_getElem hi, List.filter_append]
  congr 1
  simp only [List.filter_cons, List.filter_nil]
def kvA (x : Key × Own) : List AV := [.p (.v (.int .u32 (addrK x.1))), .p (.v (.int .i64 x.1.length)), .p (.v (.string x.2)), .p (.v (.int .i64 1))]
set_option maxHeartbeats 4000000 in
theorem without_s {gf : FuncId} {fn : Func} {C : List PV} (is : Key → Own → Bool) (hf : Try.prog.funcs[gf]? = some fn) (hb : fn.body.isNone = false) (hnm : (fn.name == "runtime.NumGoroutine") = false)
    (hg : ∀ x : Key × Own, x.1.length ≤ 32 → Fn Try.prog gf [.agg (kvA x), .ptr C] (.p (.v (.bool (is x.1 x.2)))) []) (l : List ND) (hok : ∀ x ∈ l, x.OK) (hfz : ∀ x ∈ l, x.fault = 0) (hz : l.length * 40 ≤ 140737488355328) (hfew : (prs l).length ≤ 8589934592) :
    Fn Try.prog 59 [.p (ndsV l), .fn gf [.ptr C]] (.row 0) [(0, .row 72 4 (grownL ((prs l).filter fun x => !is x.1 x.2)).length (nds (grownL ((prs l).filter fun x => !is x.1 x.2))))] := by
  have hO := owned_s l hz
  have hprs := ownedL_prs hok hfz
  have hKs := prs_short hok hfz
  rw [hprs] at hO
  generalize prs l = K at *
  have hOi := nds_isV (K.map one)
  have hKn := one_len K
  rw [List.length_map] at hO
  generalize hB : nds (K.map one) = B at *
  refine fn_intro Try.func59 rfl (Nat.le_of_ble_eq_true rfl) fun w0 A => ?_
  refine awp_seq ?_
  refine awp_text (by kernel_rfl) ?_
  (refine r_pure (a_assign (r := .p _)) rfl rfl ?_)
  refine arun_nil ?_
  refine awp_seq ?_
  refine awp_text (by kernel_rfl) ?_
  (refine r_pure (a_assign (r := .p _)) rfl rfl ?_)
  refine arun_nil ?_
  refine thn_n (awp_re (re_nil 5 5 72 4 rfl rfl) ?_)
  refine awp_seq (awp_seq ?_)
  refine awp_text (by kernel_rfl) ?_
  (refine r_pure (a_move (r := .p _)) rfl rfl ?_)
  (refine r_callS (fun n => 9 + 1000 * n) (hO) rfl rfl Try.func48 rfl rfl (by first | rfl | simp [AV.okInL, AV.okIn, okInL_map]) rfl rfl rfl (by first | exact trivial | exact ⟨rfl, trivial⟩ | exact ⟨rfl, rfl, trivial⟩) rfl rfl rfl ?_)
  (refine r_run (a_lenR Try.underlying22) rfl rfl ⟨rfl, trivial⟩ ?_)
  (refine r_pure (a_move (r := .p _)) rfl rfl ?_)
  refine arun_nil ?_
  refine awp_block ?_
  refine awp_loopR (fun m st => ∃ i : Nat, m + i = K.length ∧ st = St.of [(1, .fn gf [.ptr C]), (5, .row 5), (9, .row 9), (10, .p (.v (.int .i64 K.length))), (11, .p (.v (.int .i64 i)))] [(5, .row 72 4 ((K.take i).filter fun x => !is x.1 x.2).length (nds (((K.take i).filter fun x => !is x.1 x.2).map one))), (9, .row 72 4 K.length B)]) K.length ?_ ?_
  · refine ⟨_, re_of id _ _ (by repeat (first | exact trivial | refine ⟨⟨rfl, rfl⟩, ?_⟩)) (by repeat (first | exact trivial | refine ⟨⟨rfl, rfl⟩, ?_⟩)) rfl, 0, by omega, rfl⟩
  rintro m st ⟨i, hi, rfl⟩
  refine awp_seq ?_
  refine awp_text (by kernel_rfl) ?_
  (refine r_pure a_lss rfl rfl ?_)
  refine arun_nil ?_
  refine awp_seq ?_
  refine awp_cond _ rfl (fun h => ?_) (fun h => ?_)
  · have hlt : i < K.length := by simp at h; omega
    clear h
    obtain ⟨x, hx⟩ : ∃ x, K[i]? = some x := ⟨K[i], List.getElem?_eq_getElem hlt⟩
    have hld := one_at hx
    rw [hB] at hld
    have hxs := hKs x (List.mem_of_getElem? hx)
    have hnx := filter_take (f := fun x => !is x.1 x.2) hx
    have hc := hg x hxs
    unfold kvA at hc
    have hb2 : ((K.take i).filter fun x => !is x.1 x.2).length ≤ i := Nat.le_trans (List.length_filter_le _ _) (by rw [List.length_take]; omega)
    refine awp_skip (awp_seq (awp_block (awp_seq ?_)))
    refine awp_text (by kernel_rfl) ?_
    (refine r_run (a_indexAddrR Try.underlying22 sz72 (by omega) (by omega) (by first | (simp only [Int.toNat_natCast, Nat.mul_one, Nat.zero_add]; rfl) | rfl)) rfl rfl ⟨rfl, trivial⟩ ?_)
    (refine r_run (a_loadNr Try.underlying72 rfl sz72 (by omega) (hld)) rfl rfl ⟨rfl, trivial⟩ ?_)
    (refine r_run (a_alloc 7 zr72 rfl) rfl rfl ⟨rfl, trivial⟩ ?_)
    (refine r_run (a_storeAll (Y := .agg _) sz72 rfl (by first | exact Nat.eq_of_beq_eq_true rfl | (simp only [AV.cells, List.length_map]; first | assumption | omega)) (Nat.eq_of_beq_eq_true rfl)) rfl rfl ⟨rfl, trivial⟩ ?_)
    refine arun_nil ?_
    cases hi2 : is x.1 x.2 with
    | false =>
      rw [hi2] at hc
      rw [show (!is x.1 x.2) = true by rw [hi2]; rfl, if_pos rfl] at hnx
      generalize (K.take i).filter (fun x => !is x.1 x.2) = M at *
      have hl2 : M.length + 1 = ((K.take (i + 1)).filter fun x => !is x.1 x.2).length := by rw [hnx]; simp
      have happ : nds (M.map one) ++ [.v (.int .u32 (addrK x.1)), .v (.int .i64 x.1.length), .v (.string x.2), .v (.int .i64 1)] = nds (((K.take (i + 1)).filter fun x => !is x.1 x.2).map one) := by rw [hnx, List.map_append, nds_app]; rfl
      refine awp_seq ?_
      refine awp_text (by kernel_rfl) ?_
      (refine r_pure (a_move (r := .fn _ _)) rfl rfl ?_)
      (refine r_run (a_loadN Try.underlying72 rfl sz72 (by first | exact Nat.le_of_ble_eq_true rfl | omega | (simp only [AV.cells, List.length_map]; omega)) (by first | exact take_all (by first | assumption | exact Nat.eq_of_beq_eq_true rfl | (simp only [AV.cells, List.length_map]; first | assumption | omega)) | (simp only [List.take_succ_cons, List.take_zero, List.drop_succ_cons, List.drop_zero]; rfl) | rfl)) rfl rfl ⟨rfl, trivial⟩ ?_)
      refine r_callS (fun n => 17 + 1000 * n) hc rfl rfl hf hb hnm rfl rfl rfl rfl trivial rfl rfl rfl ?_
      (refine r_pure a_not rfl rfl ?_)
      refine arun_nil ?_
      refine thn_n ?_
      refine awp_cond _ rfl (fun h => ?_) (fun h => ?_)
      · skip
        refine awp_text (by kernel_rfl) ?_
        (refine r_pure (a_move (r := .row _)) rfl rfl ?_)
        (refine r_run (a_loadN Try.underlying72 rfl sz72 (by first | exact Nat.le_of_ble_eq_true rfl | omega | (simp only [AV.cells, List.length_map]; omega)) (by first | exact take_all (by first | assumption | exact Nat.eq_of_beq_eq_true rfl | (simp only [AV.cells, List.length_map]; first | assumption | omega)) | (simp only [List.take_succ_cons, List.take_zero, List.drop_succ_cons, List.drop_zero]; rfl) | rfl)) rfl rfl ⟨rfl, trivial⟩ ?_)
        (refine r_run (xs := [.agg [.p (.v (.int .u32 (addrK x.1))), .p (.v (.int .i64 x.1.length)), .p (.v (.string x.2)), .p (.v (.int .i64 1))]]) (a_buildSlice (es := [.p (.v (.int .u32 (addrK x.1))), .p (.v (.int .i64 x.1.length)), .p (.v (.string x.2)), .p (.v (.int .i64 1))]) (cs := [.v (.int .u32 (addrK x.1)), .v (.int .i64 x.1.length), .v (.string x.2), .v (.int .i64 1)]) 21 Try.underlying22 sz72 zc72 (Nat.le_of_ble_eq_true rfl) (Nat.le_of_ble_eq_true rfl) rfl (by kernel_rfl) (by kernel_rfl) (by kernel_rfl) (Nat.le_of_ble_eq_true rfl)) (by first | rfl | kernel_rfl) rfl ⟨rfl, trivial⟩ ?_)
        (refine r_run (a_append 22 Try.underlying22 eo72 (src_row) (by simp only [maxLen]; omega) (by omega) hl2 happ) rfl rfl ⟨rfl, rfl, rfl, trivial⟩ ?_)
        (refine r_pure (a_assign (r := .row _)) rfl rfl ?_)
        refine arun_nil ?_
        refine inb_n (thn_n ?_)
        refine awp_text (by kernel_rfl) ?_
        (refine r_pure (a_add (by first | exact IntWalk.i64_in _ (by omega) | rfl)) rfl rfl ?_)
        (refine r_pure (a_move (r := .p _)) rfl rfl ?_)
        refine arun_nil ?_
        refine thn_n ?_
        refine ⟨m - 1, by omega, _, re_of (fun o => bif Nat.beq o 5 then 22 else o) _ _ (by repeat (first | exact trivial | refine ⟨⟨rfl, rfl⟩, ?_⟩)) (by repeat (first | exact trivial | refine ⟨⟨rfl, rfl⟩, ?_⟩)) rfl, i + 1, by omega, rfl⟩
      · cases h
    | true =>
      rw [hi2] at hc
      rw [show (!is x.1 x.2) = false by rw [hi2]; rfl, if_neg (by simp), List.append_nil] at hnx
      rw [← hnx]
      refine awp_seq ?_
      refine awp_text (by kernel_rfl) ?_
      (refine r_pure (a_move (r := .fn _ _)) rfl rfl ?_)
      (refine r_run (a_loadN Try.underlying72 rfl sz72 (by first | exact Nat.le_of_ble_eq_true rfl | omega | (simp only [AV.cells, List.length_map]; omega)) (by first | exact take_all (by first | assumption | exact Nat.eq_of_beq_eq_true rfl | (simp only [AV.cells, List.length_map]; first | assumption | omega)) | (simp only [List.take_succ_cons, List.take_zero, List.drop_succ_cons, List.drop_zero]; rfl) | rfl)) rfl rfl ⟨rfl, trivial⟩ ?_)
      refine r_callS (fun n => 17 + 1000 * n) hc rfl rfl hf hb hnm rfl rfl rfl rfl trivial rfl rfl rfl ?_
      (refine r_pure a_not rfl rfl ?_)
      refine arun_nil ?_
      refine thn_n ?_
      refine awp_cond _ rfl (fun h => ?_) (fun h => ?_)
      · cases h
      · refine awp_skip (inb_n (thn_n ?_))
        refine awp_text (by kernel_rfl) ?_
        (refine r_pure (a_add (by first | exact IntWalk.i64_in _ (by omega) | rfl)) rfl rfl ?_)
        (refine r_pure (a_move (r := .p _)) rfl rfl ?_)
        refine arun_nil ?_
        refine thn_n ?_
        refine ⟨m - 1, by omega, _, re_of id _ _ (by repeat (first | exact trivial | refine ⟨⟨rfl, rfl⟩, ?_⟩)) (by repeat (first | exact trivial | refine ⟨⟨rfl, rfl⟩, ?_⟩)) rfl, i + 1, by omega, rfl⟩
  have hge : i = K.length := by simp at h; omega
  clear h
  subst hge
  rw [List.take_length]
  have hMs : ∀ x ∈ K.filter (fun x => !is x.1 x.2), x.1.length ≤ 32 := fun x hx => hKs x (List.mem_filter.1 hx).1
  have hMl : (K.filter fun x => !is x.1 x.2).length ≤ K.length := List.length_filter_le _ _
  generalize (K.filter fun x => !is x.1 x.2) = M at *
  have hG := grown_s M.length M (Nat.le_refl _) hMs (by omega)
  have hGL : (grownF M.length M).map toND = grownL M := rfl
  rw [hGL] at hG
  have hGi := nds_isV (grownL M)
  refine awp_exit (awp_seq ?_)
  refine awp_text (by kernel_rfl) ?_
  (refine r_pure (a_move (r := .row _)) rfl rfl ?_)
  (refine r_callV (fun n => 25 + 1000 * n) (hG) rfl rfl Try.func49 rfl rfl (by simp [AV.noSl, AV.noSlL, AObj.noSl, hGi]) (by simp [AV.noSl, AV.noSlL, AObj.noSl, hGi]) rfl rfl rfl (by first | exact trivial | exact ⟨rfl, trivial⟩ | exact ⟨rfl, rfl, trivial⟩) rfl rfl rfl ?_)
  (refine r_pure (a_assign (r := .row _)) rfl rfl ?_)
  refine arun_nil ?_
  refine awp_ret ?_
  refine ⟨(by first | exact .inl rfl | exact .inr rfl), _, (fun _ => 25), (.tmp _ _ _ _ rfl .nil), ?_, rfl, ?_, rfl⟩
  · exact rfl
  · exact ⟨⟨rfl, rfl⟩, trivial⟩
theorem refDropOwner1_s (w : ByteArray) (x : Key × Own) : Fn Try.prog 60 [.agg (kvA x), .ptr [.v (.string w)]] (.p (.v (.bool (decide (x.2 = w))))) [] := by
  unfold kvA
  refine fn_intro Try.func60 rfl (Nat.le_of_ble_eq_true rfl) fun w0 A => ?_
  refine awp_seq ?_
  refine awp_text (by kernel_rfl) ?_
  (refine r_run (a_box (X := .agg _) 2 rfl) rfl rfl ⟨rfl, trivial⟩ ?_)
  (refine r_pure (a_assign (r := .p _)) rfl rfl ?_)
  refine arun_nil ?_
  refine awp_seq ?_
  refine awp_text (by kernel_rfl) ?_
  (refine r_pure (b_fieldAddr fi72_1 rfl) rfl rfl ?_)
  (refine r_run (a_load1 Try.underlying9 rfl (by first | rfl | assumption)) rfl rfl ⟨rfl, trivial⟩ ?_)
  (refine r_pure (a_load1p Try.underlying9 rfl (by first | rfl | assumption | ((try simp only [List.getElem?_drop, List.getElem?_take, Int.toNat_natCast, Nat.mul_one, Nat.add_zero, Nat.zero_add]); first | assumption | rfl))) rfl rfl ?_)
  (refine r_pure a_seql rfl rfl ?_)
  (refine r_pure (a_assign (r := .p _)) rfl rfl ?_)
  refine arun_nil ?_
  refine awp_ret ?_
  refine ⟨(by first | exact .inl rfl | exact .inr rfl), _, (fun o => o), (.tmp _ _ _ _ rfl .nil), ?_, rfl, ?_, rfl⟩
  · exact rfl
  · exact trivial
theorem trie_few {l : List ND} (hok : ∀ x ∈ l, x.OK) (h : trieE l = 0) : (∀ x ∈ l, x.fault = 0) ∧ prs l = (treeOf l).pairs ∧ (prs l).length ≤ 8589934592 := by
  obtain ⟨hv, hs, hl⟩ := (trieE_iff hok).1 h
  have hp : prs l = (treeOf l).pairs := by conv => lhs; rw [hl]
                                           exact prs_nodes hs
  refine ⟨fun x hx => TR.list_fault hs x (by rw [← hl]; exact hx), hp, ?_⟩
  rw [hp]
  have := keys_few (TR.pairs_nodup hv) fun p hp => by
    obtain ⟨x, hx, rfl⟩ := List.mem_map.1 hp
    exact TR.pairs_short hs x hx
  rwa [List.length_map] at this
set_option maxHeartbeats 2000000 in
theorem refDropOwner_s (l : List ND) (hok : ∀ x ∈ l, x.OK) (hz : l.length * 40 ≤ 140737488351232) (w : ByteArray) : Fn Try.prog 22 [.p (ndsV l), .p (.v (.string w))] (nRes (trieE l)) (nNew (trieE l) (dropOL l w)) := by
  have hC := rcheck_s l hok hz
  by_cases h1 : trieE l ≠ 0
  · obtain ⟨e1, e2⟩ := nRes_bad h1 (dropOL l w)
    rw [e1, e2]
    generalize trieE l = e at *
    refine fn_intro Try.func22 rfl (Nat.le_of_ble_eq_true rfl) fun w0 A => ?_
    refine awp_seq ?_
    refine awp_text (by kernel_rfl) ?_
    (refine r_run (a_box (X := .p _) 3 rfl) rfl rfl ⟨rfl, trivial⟩ ?_)
    (refine r_pure (a_assign (r := .p _)) rfl rfl ?_)
    (refine r_pure (a_assign (r := .p _)) rfl rfl ?_)
    refine arun_nil ?_
    refine awp_seq (awp_seq ?_)
    refine awp_text (by kernel_rfl) ?_
    (refine r_pure (a_move (r := .p _)) rfl rfl ?_)
    (refine r_callV (fun n => 8 + 1000 * n) (hC) rfl rfl Try.func15 rfl rfl (by first | rfl | simp [AV.noSl, AV.noSlL, AObj.noSl, PV.isV, bs_noSl]) (by first | rfl | simp [AV.noSl, AV.noSlL, AObj.noSl, PV.isV, bs_noSl]) rfl rfl rfl (by first | exact trivial | exact ⟨rfl, trivial⟩ | exact ⟨rfl, rfl, trivial⟩) rfl rfl rfl ?_)
    (refine r_pure (a_assign (r := .p _)) rfl rfl ?_)
    refine arun_nil ?_
    refine awp_seq ?_
    refine awp_text (by kernel_rfl) ?_
    (refine r_pure (a_move (r := .p _)) rfl rfl ?_)
    (refine r_pure a_neq rfl rfl ?_)
    refine arun_nil ?_
    refine thn_n ?_
    refine awp_cond _ rfl (fun h => ?_) (fun h => ?_)
    · refine awp_seq ?_
      refine awp_text (by kernel_rfl) ?_
      (refine r_pure (a_move (r := .p _)) rfl rfl ?_)
      (refine r_pure (a_assign (r := .p _)) rfl rfl ?_)
      (refine r_pure (a_assign (r := .p _)) rfl rfl ?_)
      refine arun_nil ?_
      refine awp_ret (thn_r ?_)
      refine ⟨(by first | exact .inl rfl | exact .inr rfl), _, (fun o => o), (.tmp _ _ _ _ rfl (.tmp _ _ _ _ rfl .nil)), ?_, rfl, ?_, rfl⟩
      · exact rfl
      · exact trivial
    · exact absurd (by simpa using h) h1
  replace h1 : trieE l = 0 := Decidable.not_not.1 h1
  obtain ⟨f1, f2, f3⟩ := trie_few hok h1
  obtain ⟨hv, hs, hl⟩ := (trieE_iff hok).1 h1
  have hW := without_s (C := [.v (.string w)]) (fun _ o => decide (o = w)) Try.func60 rfl rfl (fun x _ => refDropOwner1_s w x) l hok f1 (by omega) f3
  rw [f2, strip_grown (fun _ o => decide (o = w)) hv] at hW
  rw [h1] at hC ⊢
  obtain ⟨e1, e2⟩ := nRes_good (dropOL l w)
  rw [e1, e2]
  clear e1 e2
  unfold dropOL
  generalize ((treeOf l).strip fun _ o => decide (o = w)) = u at *
  have hiv := nds_isV u.list
  generalize nds u.list = cs at *
  generalize u.list.length = m at *
  refine fn_intro Try.func22 rfl (Nat.le_of_ble_eq_true rfl) fun w0 A => ?_
  refine awp_seq ?_
  refine awp_text (by kernel_rfl) ?_
  (refine r_run (a_box (X := .p _) 3 rfl) rfl rfl ⟨rfl, trivial⟩ ?_)
  (refine r_pure (a_assign (r := .p _)) rfl rfl ?_)
  (refine r_pure (a_assign (r := .p _)) rfl rfl ?_)
  refine arun_nil ?_
  refine awp_seq (awp_seq ?_)
  refine awp_text (by kernel_rfl) ?_
  (refine r_pure (a_move (r := .p _)) rfl rfl ?_)
  (refine r_callV (fun n => 8 + 1000 * n) (hC) rfl rfl Try.func15 rfl rfl (by first | rfl | simp [AV.noSl, AV.noSlL, AObj.noSl, PV.isV, bs_noSl]) (by first | rfl | simp [AV.noSl, AV.noSlL, AObj.noSl, PV.isV, bs_noSl]) rfl rfl rfl (by first | exact trivial | exact ⟨rfl, trivial⟩ | exact ⟨rfl, rfl, trivial⟩) rfl rfl rfl ?_)
  (refine r_pure (a_assign (r := .p _)) rfl rfl ?_)
  refine arun_nil ?_
  refine awp_seq ?_
  refine awp_text (by kernel_rfl) ?_
  (refine r_pure (a_move (r := .p _)) rfl rfl ?_)
  (refine r_pure a_neqT rfl rfl ?_)
  refine arun_nil ?_
  refine thn_n ?_
  refine awp_cond _ rfl (fun h => ?_) (fun h => ?_)
  · cases h
  refine awp_reO (reo_fzV (cs := [.v (.string w)]) 3 rfl rfl) ?_
  refine awp_skip (awp_seq ?_)
  refine awp_text (by kernel_rfl) ?_
  (refine r_pure (a_move (r := .p _)) rfl rfl ?_)
  (refine r_pure a_makeFunc rfl rfl ?_)
  (refine r_callS (fun n => 14 + 1000 * n) (hW) rfl rfl Try.func59 rfl rfl (by first | rfl | simp [AV.okInL, AV.okIn, okInL_map]) rfl rfl rfl (by first | exact trivial | exact ⟨rfl, trivial⟩ | exact ⟨rfl, rfl, trivial⟩) rfl rfl rfl ?_)
  (refine r_pure (a_assign (r := .row _)) rfl rfl ?_)
  (refine r_pure (a_assign (r := .p _)) rfl rfl ?_)
  refine arun_nil ?_
  refine awp_ret ?_
  refine ⟨(by first | exact .inl rfl | exact .inr rfl), _, (fun _ => 14), (.tmp _ _ _ _ rfl (.tmp _ _ _ _ rfl .nil)), ?_, rfl, ?_, rfl⟩
  · exact rfl
  · exact ⟨⟨rfl, rfl⟩, trivial⟩
set_option maxHeartbeats 1000000 in
theorem law_TrieDrops (x0 : List PV) (ty0 : Ty Try.prog 10 22 x0) (x1 : List PV) (ty1 : Ty Try.prog 10 9 x1) : Fn Try.prog 5 [argAV false x0, argAV false x1] (.p (.v (.bool true))) [] := by
  obtain ⟨l, hok, hz, rfl⟩ := nodes_of_ty ty0
  obtain ⟨w, rfl, hw⟩ := ty_string Try.underlying9 ty1
  have hA := dropOwner_s l hok hz w
  have hB := refDropOwner_s l hok hz w
  show Fn Try.prog 5 [.p (ndsV l), .p (.v (.string w))] (.p (.v (.bool true))) []
  have hlen : (dropOL l w).length ≤ 4611686018427387904 ∨ trieE l ≠ 0 := by
    by_cases h1 : trieE l = 0
    · obtain ⟨hv, hs, hl⟩ := (trieE_iff hok).1 h1
      have := TR.strip_len (fun _ o => decide (o = w)) (treeOf l)
      rw [← hl] at this
      exact .inl (by unfold dropOL; omega)
    · exact .inr h1
  generalize dropOL l w = u at *
  by_cases h1 : trieE l ≠ 0
  · obtain ⟨e1, e2⟩ := nRes_bad h1 u
    rw [e1, e2] at hA hB
    generalize trieE l = e at *
    have hS := sameNodesNil_s
    refine fn_intro Try.func5 rfl (Nat.le_of_ble_eq_true rfl) fun w0 A => ?_
    refine awp_seq ?_
    refine awp_text (by kernel_rfl) ?_
    (refine r_pure (a_assign (r := .p _)) rfl rfl ?_)
    refine arun_nil ?_
    refine awp_seq ?_
    refine awp_text (by kernel_rfl) ?_
    (refine r_pure (a_move (r := .p _)) rfl rfl ?_)
    (refine r_pure (a_move (r := .p _)) rfl rfl ?_)
    (refine r_callV (fun n => 12 + 1000 * n) (hA) rfl rfl Try.func21 rfl rfl (by first | rfl | simp [AV.noSl, AV.noSlL, AObj.noSl, PV.isV, bs_noSl]) (by first | rfl | simp [AV.noSl, AV.noSlL, AObj.noSl, PV.isV, bs_noSl]) rfl rfl rfl (by first | exact trivial | exact ⟨rfl, trivial⟩ | exact ⟨rfl, rfl, trivial⟩) rfl rfl rfl ?_)
    (refine r_pure (a_move (r := .tup _)) rfl rfl ?_)
    (refine r_pure (a_extract rfl) rfl rfl ?_)
    (refine r_pure (a_extract rfl) rfl rfl ?_)
    (refine r_pure (a_assign (r := .p _)) rfl rfl ?_)
    (refine r_pure (a_assign (r := .p _)) rfl rfl ?_)
    refine arun_nil ?_
    refine awp_seq ?_
    refine awp_text (by kernel_rfl) ?_
    (refine r_pure (a_move (r := .p _)) rfl rfl ?_)
    (refine r_pure (a_move (r := .p _)) rfl rfl ?_)
    (refine r_callV (fun n => 18 + 1000 * n) (hB) rfl rfl Try.func22 rfl rfl (by first | rfl | simp [AV.noSl, AV.noSlL, AObj.noSl, PV.isV, bs_noSl]) (by first | rfl | simp [AV.noSl, AV.noSlL, AObj.noSl, PV.isV, bs_noSl]) rfl rfl rfl (by first | exact trivial | exact ⟨rfl, trivial⟩ | exact ⟨rfl, rfl, trivial⟩) rfl rfl rfl ?_)
    (refine r_pure (a_move (r := .tup _)) rfl rfl ?_)
    (refine r_pure (a_extract rfl) rfl rfl ?_)
    (refine r_pure (a_extract rfl) rfl rfl ?_)
    (refine r_pure (a_assign (r := .p _)) rfl rfl ?_)
    (refine r_pure (a_assign (r := .p _)) rfl rfl ?_)
    refine arun_nil ?_
    refine awp_seq ?_
    refine awp_text (by kernel_rfl) ?_
    (refine r_pure (a_move (r := .p _)) rfl rfl ?_)
    (refine r_pure (a_move (r := .p _)) rfl rfl ?_)
    (refine r_callV (fun n => 23 + 1000 * n) (hS) rfl rfl Try.func20 rfl rfl (by first | rfl | simp [AV.noSl, AV.noSlL, AObj.noSl, PV.isV, bs_noSl]) (by first | rfl | simp [AV.noSl, AV.noSlL, AObj.noSl, PV.isV, bs_noSl]) rfl rfl rfl (by first | exact trivial | exact ⟨rfl, trivial⟩ | exact ⟨rfl, rfl, trivial⟩) rfl rfl rfl ?_)
    (refine r_pure (a_move (r := .p _)) rfl rfl ?_)
    (refine r_pure (a_move (r := .p _)) rfl rfl ?_)
    (refine r_pure (a_move (r := .p _)) rfl rfl ?_)
    (refine r_pure a_eqlT rfl rfl ?_)
    (refine r_pure a_pickT rfl rfl ?_)
    (refine r_pure (a_assign (r := .p _)) rfl rfl ?_)
    refine arun_nil ?_
    refine awp_ret ?_
    refine ⟨(by first | exact .inl rfl | exact .inr rfl), _, (fun o => o), (.tmp _ _ _ _ rfl .nil), ?_, rfl, ?_, rfl⟩
    · exact rfl
    · exact trivial
  replace h1 : trieE l = 0 := Decidable.not_not.1 h1
  rw [h1] at hA hB
  obtain ⟨e1, e2⟩ := nRes_good u
  rw [e1, e2] at hA hB
  have hS := sameNodes_s u (by rcases hlen with h | h <;> omega)
  have hiv := nds_isV u
  unfold ndsV at hS
  generalize nds u = cs at *
  generalize u.length = m at *
  refine fn_intro Try.func5 rfl (Nat.le_of_ble_eq_true rfl) fun w0 A => ?_
  refine awp_seq ?_
  refine awp_text (by kernel_rfl) ?_
  (refine r_pure (a_assign (r := .p _)) rfl rfl ?_)
  refine arun_nil ?_
  refine awp_seq ?_
  refine awp_text (by kernel_rfl) ?_
  (refine r_pure (a_move (r := .p _)) rfl rfl ?_)
  (refine r_pure (a_move (r := .p _)) rfl rfl ?_)
  (refine r_callS (fun n => 12 + 1000 * n) (hA) rfl rfl Try.func21 rfl rfl (by first | rfl | simp [AV.okInL, AV.okIn, okInL_map]) rfl rfl rfl (by first | exact trivial | exact ⟨rfl, trivial⟩ | exact ⟨rfl, rfl, trivial⟩) rfl rfl rfl ?_)
  (refine r_pure (a_move (r := .tup _)) rfl rfl ?_)
  (refine r_pure (a_extract rfl) rfl rfl ?_)
  (refine r_pure (a_extract rfl) rfl rfl ?_)
  (refine r_pure (a_assign (r := .row _)) rfl rfl ?_)
  (refine r_pure (a_assign (r := .p _)) rfl rfl ?_)
  refine arun_nil ?_
  refine awp_seq ?_
  refine awp_text (by kernel_rfl) ?_
  (refine r_pure (a_move (r := .p _)) rfl rfl ?_)
  (refine r_pure (a_move (r := .p _)) rfl rfl ?_)
  (refine r_callS (fun n => 18 + 1000 * n) (hB) rfl rfl Try.func22 rfl rfl (by first | rfl | simp [AV.okInL, AV.okIn, okInL_map]) rfl rfl rfl (by first | exact trivial | exact ⟨rfl, trivial⟩ | exact ⟨rfl, rfl, trivial⟩) rfl rfl rfl ?_)
  (refine r_pure (a_move (r := .tup _)) rfl rfl ?_)
  (refine r_pure (a_extract rfl) rfl rfl ?_)
  (refine r_pure (a_extract rfl) rfl rfl ?_)
  (refine r_pure (a_assign (r := .row _)) rfl rfl ?_)
  (refine r_pure (a_assign (r := .p _)) rfl rfl ?_)
  refine arun_nil ?_
  refine awp_seq ?_
  refine awp_text (by kernel_rfl) ?_
  (refine r_pure (a_move (r := .row _)) rfl rfl ?_)
  (refine r_pure (a_move (r := .row _)) rfl rfl ?_)
  (refine r_callV (fun n => 23 + 1000 * n) (hS) rfl rfl Try.func20 rfl rfl (by first | rfl | simp [AV.noSl, AV.noSlL, AObj.noSl, PV.isV, bs_noSl]) (by first | rfl | simp [AV.noSl, AV.noSlL, AObj.noSl, PV.isV, bs_noSl]) rfl rfl rfl (by first | exact trivial | exact ⟨rfl, trivial⟩ | exact ⟨rfl, rfl, trivial⟩) rfl rfl rfl ?_)
  (refine r_pure (a_move (r := .p _)) rfl rfl ?_)
  (refine r_pure (a_move (r := .p _)) rfl rfl ?_)
  (refine r_pure (a_move (r := .p _)) rfl rfl ?_)
  (refine r_pure a_eqlT rfl rfl ?_)
  (refine r_pure a_pickT rfl rfl ?_)
  (refine r_pure (a_assign (r := .p _)) rfl rfl ?_)
  refine arun_nil ?_
  refine awp_ret ?_
  refine ⟨(by first | exact .inl rfl | exact .inr rfl), _, (fun o => o), (.tmp _ _ _ _ rfl .nil), ?_, rfl, ?_, rfl⟩
  · exact rfl
  · exact trivial
end Go.Proofs.Ytckkmfoccefcfaa
