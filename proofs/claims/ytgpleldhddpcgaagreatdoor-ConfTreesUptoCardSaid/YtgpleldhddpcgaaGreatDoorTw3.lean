/- trie: a tree, its check, its list, putting. -/
import Derived.Test.YtgpleldhddpcgaaGreatDoorTw2
import Derived.Test.YtgpleldhddpcgaaGreatDoorNetY
--%T
namespace Go.Proofs.YtgpleldhddpcgaaGreatDoor
open Go.RowKit Go.Sort
set_option linter.unusedVariables false
set_option linter.unusedSimpArgs false
set_option maxRecDepth 100000

/-! the tree of a list -/
def rootRes : Option (TR × List ND) → TR
  | none => .nil
  | some (t, _) => t
theorem tree_s (l : List ND) (hok : ∀ x ∈ l, x.OK) (hz : l.length ≤ 4611686018427387904) : Fn Tryz.prog 59 [.p (ndsV l)] (.p (trP (rootRes (growF l.length l)))) [] := by
  have hg := grow_s l.length l (Nat.le_refl _) hok hz
  cases hq : growF l.length l with
  | none =>
    rw [hq] at hg
    replace hg : Fn Tryz.prog 96 [.p (ndsV l)] (.tup [.p (.v (.pointer none)), .p (.v (.slice none 0 0)), .p (.v (.bool false))]) [] := hg
    refine fn_intro Tryz.func59 rfl (Nat.le_of_ble_eq_true rfl) fun w0 A => ?_
    refine awp_seq ?_
    refine tx ?_
    refine aP rfl rfl ?_
    refine arun_nil ?_
    refine awp_seq ?_
    refine tx ?_
    refine mP rfl rfl ?_
    refine r_callS (fun n => 8 + 1000 * n) (hg) rfl rfl Tryz.func96 rfl rfl (by first | rfl | simp [AV.okInL, AV.okIn, okInL_map]) rfl rfl rfl (by first | exact trivial | exact ⟨rfl, trivial⟩ | exact ⟨rfl, rfl, trivial⟩) rfl rfl rfl ?_
    refine r_pure (a_move (r := .tup _)) rfl rfl ?_
    refine r_pure (a_extract rfl) rfl rfl ?_
    refine r_pure (a_extract rfl) rfl rfl ?_
    refine r_pure (a_extract rfl) rfl rfl ?_
    refine aP rfl rfl ?_
    refine aP rfl rfl ?_
    refine aP rfl rfl ?_
    refine arun_nil ?_
    refine awp_seq ?_
    refine tx ?_
    refine mP rfl rfl ?_
    refine aP rfl rfl ?_
    refine arun_nil ?_
    refine awp_ret ?_
    refine fT (fun o => o) (.tmp _ _ _ _ rfl .nil) ?_ ?_
    · exact rfl
    · exact trivial
  | some r =>
    obtain ⟨t, rest⟩ := r
    rw [hq] at hg
    replace hg : Fn Tryz.prog 96 [.p (ndsV l)] (.tup [.p (trP t), .p (ndsV rest), .p (.v (.bool true))]) [] := hg
    refine fn_intro Tryz.func59 rfl (Nat.le_of_ble_eq_true rfl) fun w0 A => ?_
    refine awp_seq ?_
    refine tx ?_
    refine aP rfl rfl ?_
    refine arun_nil ?_
    refine awp_seq ?_
    refine tx ?_
    refine mP rfl rfl ?_
    refine r_callS (fun n => 8 + 1000 * n) (hg) rfl rfl Tryz.func96 rfl rfl (by first | rfl | simp [AV.okInL, AV.okIn, okInL_map]) rfl rfl rfl (by first | exact trivial | exact ⟨rfl, trivial⟩ | exact ⟨rfl, rfl, trivial⟩) rfl rfl rfl ?_
    refine r_pure (a_move (r := .tup _)) rfl rfl ?_
    refine r_pure (a_extract rfl) rfl rfl ?_
    refine r_pure (a_extract rfl) rfl rfl ?_
    refine r_pure (a_extract rfl) rfl rfl ?_
    refine aP rfl rfl ?_
    refine aP rfl rfl ?_
    refine aP rfl rfl ?_
    refine arun_nil ?_
    refine awp_seq ?_
    refine tx ?_
    refine mP rfl rfl ?_
    refine aP rfl rfl ?_
    refine arun_nil ?_
    refine awp_ret ?_
    refine fT (fun o => o) (.tmp _ _ _ _ rfl .nil) ?_ ?_
    · exact rfl
    · exact trivial

/-! may a list be a tree -/
def faultL : List ND → Int
  | [] => 0
  | x :: l => if x.fault ≠ 0 then x.fault else faultL l
def endsB : Option (TR × List ND) → Bool
  | some (_, []) => true
  | _ => false
def trieE (l : List ND) : Int := if faultL l ≠ 0 then faultL l else if l = [] then 0 else if endsB (growF l.length l) = true then 0 else 14
theorem faultL_at : ∀ {l : List ND} {i : Nat} {x : ND}, l[i]? = some x → (∀ j, j < i → ∀ y, l[j]? = some y → y.fault = 0) → x.fault ≠ 0 → faultL l = x.fault
  | [], i, x, h, _, _ => by simp at h
  | y :: l, 0, x, h, _, hx => by simp at h; subst h; rw [faultL, if_pos hx]
  | y :: l, i + 1, x, h, hj, hx => by
    have h0 := hj 0 (by omega) y (by simp)
    rw [faultL, if_neg (by simp [h0])]
    exact faultL_at (i := i) (by simpa using h) (fun j hj' z hz => hj (j + 1) (by omega) z (by simpa using hz)) hx
theorem faultL_zero : ∀ {l : List ND}, faultL l = 0 ↔ ∀ x ∈ l, x.fault = 0
  | [] => by simp [faultL]
  | y :: l => by
    rw [faultL]
    by_cases h : y.fault = 0
    · rw [if_neg (by simp [h]), faultL_zero]; simp [h]
    · rw [if_pos h]; simp [h]
theorem nds_at (l : List ND) (i : Nat) (x : ND) (h : l[i]? = some x) : ((nds l).drop (i * 4)).take 4 = x.pv := by
  rw [nds_drop]
  obtain ⟨hi, rfl⟩ := List.getElem?_eq_some_iff.1 h
  rw [List.drop_eq_getElem_cons hi, nds_cons]; rfl
set_option maxHeartbeats 2000000 in
theorem tcheck_s (l : List ND) (hok : ∀ x ∈ l, x.OK) (hz : l.length ≤ 4611686018427387904) : Fn Tryz.prog 56 [.p (ndsV l)] (.p (.v (.int .i64 (trieE l)))) [] := by
  refine fn_intro Tryz.func56 rfl (Nat.le_of_ble_eq_true rfl) fun w0 A => ?_
  refine awp_seq ?_
  refine tx ?_
  refine aP rfl rfl ?_
  refine arun_nil ?_
  refine awp_seq (awp_seq ?_)
  refine tx ?_
  refine mP rfl rfl ?_
  refine r_pure (a_lenS Tryz.underlying25) rfl rfl ?_
  refine mP rfl rfl ?_
  refine arun_nil ?_
  refine awp_block ?_
  refine awp_loopR (fun m st => ∃ i : Nat, m + i = l.length ∧ (∀ j, j < i → ∀ y, l[j]? = some y → y.fault = 0) ∧ st = St.of [(0, .p (ndsV l)), (9, .p (ndsV l)), (10, .p (.v (.int .i64 l.length))), (11, .p (.v (.int .i64 i)))] []) l.length ?_ ?_
  · refine ⟨_, re_of0 _ ?_, 0, by omega, by omega, rfl⟩
    · exact ⟨⟨rfl, rfl⟩, ⟨rfl, rfl⟩, ⟨rfl, rfl⟩, ⟨rfl, rfl⟩, trivial⟩
  rintro m st ⟨i, hi, hj, rfl⟩
  refine awp_seq ?_
  refine tx ?_
  refine r_pure a_lss rfl rfl ?_
  refine arun_nil ?_
  refine awp_seq ?_
  refine awp_cond _ rfl (fun h => ?_) (fun h => ?_)
  · have hlt : i < l.length := by simp at h; omega
    clear h
    obtain ⟨x, hx⟩ : ∃ x, l[i]? = some x := ⟨l[i], List.getElem?_eq_getElem hlt⟩
    have hxo := hok x (List.mem_of_getElem? hx)
    have hld := nds_at l i x hx
    have hln := nds_len l
    have hC := nCheck_s x.a x.n hxo.a0 hxo.a1
    have hxf : netFault x.a x.n = x.fault := rfl
    rw [hxf] at hC
    obtain ⟨F, hF⟩ : ∃ F, F = x.fault := ⟨_, rfl⟩
    rw [← hF] at hC
    refine awp_skip (awp_seq (awp_block (awp_seq ?_)))
    refine tx ?_
    refine r_pure (a_indexAddrS Tryz.underlying25 sz55 (by omega) (by omega) rfl) rfl rfl ?_
    refine r_pure (a_loadNp Tryz.underlying55 rfl sz55 (by rw [List.length_drop, hln]; first | omega | (simp only [Int.toNat_natCast]; omega)) ((show _ = x.pv from hld))) rfl rfl ?_
    refine r_run (a_alloc 4 zr55 rfl) rfl rfl ⟨rfl, trivial⟩ ?_
    refine r_run (a_storeAll (Y := .agg _) sz55 rfl (by first | exact Nat.eq_of_beq_eq_true rfl | (simp only [AV.cells, List.length_map]; first | assumption | omega)) (Nat.eq_of_beq_eq_true rfl)) rfl rfl ⟨rfl, trivial⟩ ?_
    refine arun_nil ?_
    refine awp_seq ?_
    refine tx ?_
    refine fA fi55_0 rfl rfl ?_
    refine lN Tryz.underlying52 rfl sz52 rfl rfl ⟨rfl, trivial⟩ ?_
    refine r_callV (fun n => 17 + 1000 * n) (hC) rfl rfl Tryz.func57 rfl rfl (by first | rfl | simp [AV.noSl, AV.noSlL, AObj.noSl, PV.isV, bs_noSl]) (by first | rfl | simp [AV.noSl, AV.noSlL, AObj.noSl, PV.isV, bs_noSl]) rfl rfl rfl (by first | exact trivial | exact ⟨rfl, trivial⟩ | exact ⟨rfl, rfl, trivial⟩) rfl rfl rfl ?_
    refine aP rfl rfl ?_
    refine arun_nil ?_
    refine awp_seq ?_
    refine tx ?_
    refine mP rfl rfl ?_
    refine r_pure a_neq rfl rfl ?_
    refine arun_nil ?_
    refine thn_n ?_
    refine awp_cond _ rfl (fun h => ?_) (fun h => ?_)
    · have hne : x.fault ≠ 0 := by rw [← hF]; simpa using h
      have hE : trieE l = F := by
        unfold trieE
        have := faultL_at hx hj hne
        rw [this, if_pos hne, hF]
      rw [hE]
      refine awp_seq ?_
      refine tx ?_
      refine mP rfl rfl ?_
      refine aP rfl rfl ?_
      refine arun_nil ?_
      refine awp_ret (inb_r (thn_r (thn_r (inb_r (thn_r ?_)))))
      refine fT (fun o => o) (.tmp _ _ _ _ rfl .nil) ?_ ?_
      · exact rfl
      · exact trivial
    · have he : x.fault = 0 := by rw [← hF]; simpa using h
      refine awp_skip (inb_n (thn_n ?_))
      refine tx ?_
      refine r_pure (a_add (by first | exact IntWalk.i64_in _ (by omega) | rfl)) rfl rfl ?_
      refine mP rfl rfl ?_
      refine arun_nil ?_
      refine thn_n ?_
      refine ⟨m - 1, by omega, _, re_of0 _ ?_, i + 1, by omega, ?_, rfl⟩
      · exact ⟨⟨rfl, rfl⟩, ⟨rfl, rfl⟩, ⟨rfl, rfl⟩, ⟨rfl, rfl⟩, trivial⟩
      · intro j hj' y hy
        by_cases hji : j = i
        · subst hji; rw [hx] at hy; cases hy; exact he
        · exact hj j (by omega) y hy
  have hge : i = l.length := by simp at h; omega
  clear h
  subst hge
  have h0 : faultL l = 0 := faultL_zero.2 fun x hx => by
    obtain ⟨j, hj1, rfl⟩ := List.mem_iff_getElem.1 hx
    exact hj j hj1 _ (List.getElem?_eq_getElem hj1)
  unfold trieE
  rw [if_neg (by simp [h0])]
  refine awp_exit (awp_seq (awp_seq ?_))
  refine tx ?_
  refine mP rfl rfl ?_
  refine r_pure (a_lenS Tryz.underlying25) rfl rfl ?_
  refine r_pure a_eql rfl rfl ?_
  refine arun_nil ?_
  refine thn_n ?_
  refine awp_cond _ rfl (fun h => ?_) (fun h => ?_)
  · have hl : l = [] := List.eq_nil_of_length_eq_zero (by simpa using h)
    rw [if_pos hl]
    refine awp_seq ?_
    refine tx ?_
    refine aP rfl rfl ?_
    refine arun_nil ?_
    refine awp_ret (thn_r ?_)
    refine fT (fun o => o) (.tmp _ _ _ _ rfl .nil) ?_ ?_
    · exact rfl
    · exact trivial
  have hl : l ≠ [] := by rintro rfl; simp at h
  rw [if_neg hl]
  have hg := grow_s l.length l (Nat.le_refl _) hok hz
  cases hq : growF l.length l with
  | none =>
    rw [hq] at hg
    replace hg : Fn Tryz.prog 96 [.p (ndsV l)] (.tup [.p (.v (.pointer none)), .p (.v (.slice none 0 0)), .p (.v (.bool false))]) [] := hg
    rw [show endsB none = false from rfl, if_neg (by simp)]
    refine awp_skip (awp_seq (awp_seq ?_))
    refine tx ?_
    refine mP rfl rfl ?_
    refine r_callS (fun n => 27 + 1000 * n) (hg) rfl rfl Tryz.func96 rfl rfl (by first | rfl | simp [AV.okInL, AV.okIn, okInL_map]) rfl rfl rfl (by first | exact trivial | exact ⟨rfl, trivial⟩ | exact ⟨rfl, rfl, trivial⟩) rfl rfl rfl ?_
    refine r_pure (a_move (r := .tup _)) rfl rfl ?_
    refine r_pure (a_extract rfl) rfl rfl ?_
    refine r_pure (a_extract rfl) rfl rfl ?_
    refine r_pure (a_extract rfl) rfl rfl ?_
    refine aP rfl rfl ?_
    refine aP rfl rfl ?_
    refine aP rfl rfl ?_
    refine arun_nil ?_
    refine awp_seq ?_
    refine tx ?_
    refine mP rfl rfl ?_
    refine r_pure a_not rfl rfl ?_
    refine mP rfl rfl ?_
    refine r_skipG rfl ?_
    refine r_skipG rfl ?_
    refine r_skipG rfl ?_
    refine r_pure a_pickT rfl rfl ?_
    refine arun_nil ?_
    refine thn_n ?_
    refine awp_cond _ rfl (fun h => ?_) (fun h => ?_)
    · refine awp_seq ?_
      refine tx ?_
      refine aP rfl rfl ?_
      refine arun_nil ?_
      refine awp_ret (thn_r ?_)
      refine fT (fun o => o) (.tmp _ _ _ _ rfl .nil) ?_ ?_
      · exact rfl
      · exact trivial
    · cases h
  | some r =>
    obtain ⟨t, rest⟩ := r
    rw [hq] at hg
    replace hg : Fn Tryz.prog 96 [.p (ndsV l)] (.tup [.p (trP t), .p (ndsV rest), .p (.v (.bool true))]) [] := hg
    refine awp_skip (awp_seq (awp_seq ?_))
    refine tx ?_
    refine mP rfl rfl ?_
    refine r_callS (fun n => 27 + 1000 * n) (hg) rfl rfl Tryz.func96 rfl rfl (by first | rfl | simp [AV.okInL, AV.okIn, okInL_map]) rfl rfl rfl (by first | exact trivial | exact ⟨rfl, trivial⟩ | exact ⟨rfl, rfl, trivial⟩) rfl rfl rfl ?_
    refine r_pure (a_move (r := .tup _)) rfl rfl ?_
    refine r_pure (a_extract rfl) rfl rfl ?_
    refine r_pure (a_extract rfl) rfl rfl ?_
    refine r_pure (a_extract rfl) rfl rfl ?_
    refine aP rfl rfl ?_
    refine aP rfl rfl ?_
    refine aP rfl rfl ?_
    refine arun_nil ?_
    refine awp_seq ?_
    refine tx ?_
    refine mP rfl rfl ?_
    refine r_pure a_not rfl rfl ?_
    refine mP rfl rfl ?_
    refine mP rfl rfl ?_
    refine r_pure (a_lenS Tryz.underlying25) rfl rfl ?_
    refine r_pure a_gtr rfl rfl ?_
    refine r_pure a_pickF rfl rfl ?_
    refine arun_nil ?_
    refine thn_n ?_
    refine awp_cond _ rfl (fun h => ?_) (fun h => ?_)
    · have : endsB (some (t, rest)) = false := by
        cases rest with
        | nil => simp at h
        | cons => rfl
      rw [this, if_neg (by simp)]
      refine awp_seq ?_
      refine tx ?_
      refine aP rfl rfl ?_
      refine arun_nil ?_
      refine awp_ret (thn_r ?_)
      refine fT (fun o => o) (.tmp _ _ _ _ rfl .nil) ?_ ?_
      · exact rfl
      · exact trivial
    · have : endsB (some (t, rest)) = true := by
        cases rest with
        | nil => rfl
        | cons => simp at h
      rw [this, if_pos rfl]
      refine awp_skip (awp_seq ?_)
      refine tx ?_
      refine aP rfl rfl ?_
      refine arun_nil ?_
      refine awp_ret ?_
      refine fT (fun o => o) (.tmp _ _ _ _ rfl .nil) ?_ ?_
      · exact rfl
      · exact trivial
end Go.Proofs.YtgpleldhddpcgaaGreatDoor
