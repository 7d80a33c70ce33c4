/- Tries, the references: without, TriePut, TrieGet, TrieDrop, TrieDropOwner, TrieFind; lists compared. -/
import Derived.Test.YtgpleldhddpcgaaGreatDoorTw6
import Derived.Test.YtgpleldhddpcgaaGreatDoorTw8
--%T
namespace Go.Proofs.YtgpleldhddpcgaaGreatDoor
open Go.RowKit Go.Sort
set_option linter.unusedVariables false
set_option linter.unusedSimpArgs false
set_option maxRecDepth 100000

/-! lists compared -/
set_option maxHeartbeats 1000000 in
theorem nodesSame_s (l : List ND) (hz : l.length ≤ 4611686018427387904) : Fn Tryz.prog 24 [.p (ndsV l), .p (ndsV l)] (.p (.v (.bool true))) [] := by
  have hlnl := nds_len l
  refine fn_intro Tryz.func24 rfl (Nat.le_of_ble_eq_true rfl) fun w0 A => ?_
  refine awp_seq ?_
  refine tx ?_
  refine aP rfl rfl ?_
  refine arun_nil ?_
  refine awp_seq (awp_seq ?_)
  refine tx ?_
  refine mP rfl rfl ?_
  refine r_pure (a_lenS Tryz.underlying25) rfl rfl ?_
  refine mP rfl rfl ?_
  refine r_pure (a_lenS Tryz.underlying25) rfl rfl ?_
  refine r_pure a_neqT rfl rfl ?_
  refine arun_nil ?_
  refine thn_n ?_
  refine awp_cond _ rfl (fun h => ?_) (fun h => ?_)
  · cases h
  clear h
  refine awp_skip (awp_seq (awp_seq ?_))
  refine tx ?_
  refine mP rfl rfl ?_
  refine r_pure (a_lenS Tryz.underlying25) rfl rfl ?_
  refine mP rfl rfl ?_
  refine arun_nil ?_
  refine awp_block ?_
  refine awp_loopR (fun m st => ∃ i : Nat, m + i = l.length ∧ st = St.of [(0, .p (ndsV l)), (1, .p (ndsV l)), (12, .p (.v (.int .i64 l.length))), (13, .p (.v (.int .i64 i)))] []) l.length ?_ ?_
  · refine ⟨_, re_of0 _ (by repeat (first | exact trivial | refine ⟨⟨rfl, rfl⟩, ?_⟩)), 0, by omega, rfl⟩
  rintro m st ⟨i, hi, rfl⟩
  refine awp_seq ?_
  refine tx ?_
  refine r_pure a_lss rfl rfl ?_
  refine arun_nil ?_
  refine awp_seq ?_
  refine awp_cond _ rfl (fun h => ?_) (fun h => ?_)
  · have hlt : i < l.length := by simp at h; omega
    clear h
    obtain ⟨x, hx⟩ : ∃ x, l[i]? = some x := ⟨l[i], List.getElem?_eq_getElem hlt⟩
    have hld := nds_at l i x hx
    refine awp_skip (awp_seq (awp_block (awp_seq ?_)))
    refine tx ?_
    refine mP rfl rfl ?_
    refine aP rfl rfl ?_
    refine arun_nil ?_
    refine awp_seq ?_
    refine awp_draw 4 (by kernel_rfl) ?_
    refine mP rfl rfl ?_
    refine mP rfl rfl ?_
    refine r_pure (a_indexAddrS Tryz.underlying25 sz55 (by omega) (by omega) rfl) rfl rfl ?_
    refine r_pure (a_loadNp Tryz.underlying55 rfl sz55 (by rw [List.length_drop, hlnl]; first | omega | (simp only [Int.toNat_natCast]; omega)) ((show _ = x.pv from hld))) rfl rfl ?_
    refine mP rfl rfl ?_
    refine mP rfl rfl ?_
    refine r_pure (a_indexAddrS Tryz.underlying25 sz55 (by omega) (by omega) rfl) rfl rfl ?_
    refine r_pure (a_loadNp Tryz.underlying55 rfl sz55 (by rw [List.length_drop, hlnl]; first | omega | (simp only [Int.toNat_natCast]; omega)) ((show _ = x.pv from hld))) rfl rfl ?_
    refine r_pure (a_stneT Tryz.underlying55 rfl (by kernel_rfl) (by kernel_rfl)) rfl rfl ?_
    refine arun_nil ⟨by kernel_rfl, ?_⟩
    refine thn_n ?_
    refine awp_cond _ rfl (fun h => ?_) (fun h => ?_)
    · cases h
    · refine awp_skip (inb_n (thn_n ?_))
      refine tx ?_
      refine r_pure (a_add (by first | exact IntWalk.i64_in _ (by omega) | rfl)) rfl rfl ?_
      refine mP rfl rfl ?_
      refine arun_nil ?_
      refine thn_n ?_
      refine ⟨m - 1, by omega, _, re_of0 _ (by repeat (first | exact trivial | refine ⟨⟨rfl, rfl⟩, ?_⟩)), i + 1, by omega, rfl⟩
  · refine awp_exit (awp_seq ?_)
    refine tx ?_
    refine aP rfl rfl ?_
    refine arun_nil ?_
    refine awp_ret ?_
    refine fT (fun o => o) (.tmp _ _ _ _ rfl .nil) ?_ ?_
    · exact rfl
    · exact trivial
theorem nodesNil_s : Fn Tryz.prog 24 [.p (.v (.slice none 0 0)), .p (.v (.slice none 0 0))] (.p (.v (.bool true))) [] := by
  refine fn_intro Tryz.func24 rfl (Nat.le_of_ble_eq_true rfl) fun w0 A => ?_
  refine awp_seq ?_
  refine tx ?_
  refine aP rfl rfl ?_
  refine arun_nil ?_
  refine awp_seq (awp_seq ?_)
  refine tx ?_
  refine mP rfl rfl ?_
  refine r_pure (a_lenNil Tryz.underlying25) rfl rfl ?_
  refine mP rfl rfl ?_
  refine r_pure (a_lenNil Tryz.underlying25) rfl rfl ?_
  refine r_pure a_neqT rfl rfl ?_
  refine arun_nil ?_
  refine thn_n ?_
  refine awp_cond _ rfl (fun h => ?_) (fun h => ?_)
  · cases h
  clear h
  refine awp_skip (awp_seq (awp_seq ?_))
  refine tx ?_
  refine mP rfl rfl ?_
  refine r_pure (a_lenNil Tryz.underlying25) rfl rfl ?_
  refine mP rfl rfl ?_
  refine arun_nil ?_
  refine awp_block ?_
  refine awp_loopR (fun m st => st = St.of [(0, .p (.v (.slice none 0 0))), (1, .p (.v (.slice none 0 0))), (12, .p (.v (.int .i64 0))), (13, .p (.v (.int .i64 0)))] []) 0 ?_ ?_
  · refine ⟨_, re_of0 _ (by repeat (first | exact trivial | refine ⟨⟨rfl, rfl⟩, ?_⟩)), rfl⟩
  rintro m st rfl
  refine awp_seq ?_
  refine tx ?_
  refine r_pure a_lss rfl rfl ?_
  refine arun_nil ?_
  refine awp_seq ?_
  refine awp_cond _ rfl (fun h => ?_) (fun h => ?_)
  · cases h
  · refine awp_exit (awp_seq ?_)
    refine tx ?_
    refine aP rfl rfl ?_
    refine arun_nil ?_
    refine awp_ret ?_
    refine fT (fun o => o) (.tmp _ _ _ _ rfl .nil) ?_ ?_
    · exact rfl
    · exact trivial
theorem sameNodes_s (l : List ND) (hz : l.length ≤ 4611686018427387904) : Fn Tryz.prog 9 [.p (ndsV l), .p (ndsV l)] (.p (.v (.bool true))) [] := by
  have hE := nodesSame_s l hz
  refine fn_intro Tryz.func9 rfl (Nat.le_of_ble_eq_true rfl) fun w0 A => ?_
  refine awp_seq ?_
  refine tx ?_
  refine aP rfl rfl ?_
  refine arun_nil ?_
  refine awp_seq ?_
  refine tx ?_
  refine mP rfl rfl ?_
  refine mP rfl rfl ?_
  refine r_callV (fun n => 7 + 1000 * n) (hE) rfl rfl Tryz.func24 rfl rfl (by first | rfl | simp [AV.noSl, AV.noSlL, AObj.noSl, PV.isV, bs_noSl]) (by first | rfl | simp [AV.noSl, AV.noSlL, AObj.noSl, PV.isV, bs_noSl]) rfl rfl rfl (by first | exact trivial | exact ⟨rfl, trivial⟩ | exact ⟨rfl, rfl, trivial⟩) rfl rfl rfl ?_
  refine aP rfl rfl ?_
  refine arun_nil ?_
  refine awp_ret ?_
  refine fT (fun o => o) (.tmp _ _ _ _ rfl .nil) ?_ ?_
  · exact rfl
  · exact trivial
theorem sameNodesNil_s : Fn Tryz.prog 9 [.p (.v (.slice none 0 0)), .p (.v (.slice none 0 0))] (.p (.v (.bool true))) [] := by
  have hE := nodesNil_s
  refine fn_intro Tryz.func9 rfl (Nat.le_of_ble_eq_true rfl) fun w0 A => ?_
  refine awp_seq ?_
  refine tx ?_
  refine aP rfl rfl ?_
  refine arun_nil ?_
  refine awp_seq ?_
  refine tx ?_
  refine mP rfl rfl ?_
  refine mP rfl rfl ?_
  refine r_callV (fun n => 7 + 1000 * n) (hE) rfl rfl Tryz.func24 rfl rfl (by first | rfl | simp [AV.noSl, AV.noSlL, AObj.noSl, PV.isV, bs_noSl]) (by first | rfl | simp [AV.noSl, AV.noSlL, AObj.noSl, PV.isV, bs_noSl]) rfl rfl rfl (by first | exact trivial | exact ⟨rfl, trivial⟩ | exact ⟨rfl, rfl, trivial⟩) rfl rfl rfl ?_
  refine aP rfl rfl ?_
  refine arun_nil ?_
  refine awp_ret ?_
  refine fT (fun o => o) (.tmp _ _ _ _ rfl .nil) ?_ ?_
  · exact rfl
  · exact trivial

/-! without what is told so -/
theorem filter_take {K : List (Key × Own)} {f : Key × Own → Bool} {i : Nat} {x : Key × Own} (h : K[i]? = some x) : (K.take (i + 1)).filter f = (K.take i).filter f ++ if f x = true then [x] else [] := by
  obtain ⟨hi, rfl⟩ := List.getElem?_eq_some_iff.1 h
  rw [List.take_succ_eq_append_getElem hi, List.filter_append]
  congr 1
  simp only [List.filter_cons, List.filter_nil]
def kvA (x : Key × Own) : List AV := [.p (.v (.int .u32 (addrK x.1))), .p (.v (.int .i64 x.1.length)), .p (.v (.string x.2)), .p (.v (.int .i64 1))]
end Go.Proofs.YtgpleldhddpcgaaGreatDoor
