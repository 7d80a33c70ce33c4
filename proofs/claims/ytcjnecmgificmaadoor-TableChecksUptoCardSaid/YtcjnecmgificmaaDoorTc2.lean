/- table.Check, over data: what it says. -/
import Derived.Test.YtcjnecmgificmaaDoorTc1
import Derived.Test.YtcjnecmgificmaaDoorTab2
import Derived.Test.YtcjnecmgificmaaDoorLe
--%T
namespace Go.Proofs.YtcjnecmgificmaaDoor
open Go.RowKit Go.Sort
set_option linter.unusedVariables false
set_option linter.unusedSimpArgs false
set_option maxRecDepth 100000

theorem idxI_ge (n : Int) : ∀ xs : List Int, (0 ≤ idxI n xs ↔ n ∈ xs)
  | [] => by simp [idxI]
  | x :: xs => by
    have ih := idxI_ge n xs
    unfold idxI
    by_cases h : n = x
    · rw [if_pos h]; simp [h]
    · rw [if_neg h]
      by_cases h2 : idxI n xs < 0
      · rw [if_pos h2]
        simp only [List.mem_cons, h, false_or]
        rw [← ih]; omega
      · rw [if_neg h2]
        simp only [List.mem_cons, h, false_or]
        rw [← ih]; omega
theorem contains_s (xs : List Int) (n : Int) (N : Nat) (hN : xs.length = N) (hm : N ≤ 100000) : Fn Tryd.prog 53 [.p (.sl N 1 (is xs)), .p (.v (.int .i64 n))] (.p (.v (.bool (decide (n ∈ xs))))) [] := by
  have hI := index_s xs n N hN hm
  have hge := idxI_ge n xs
  have hB : decide (n ∈ xs) = decide (0 ≤ idxI n xs) := by simp only [hge]
  rw [hB]
  generalize idxI n xs = k at *
  refine fn_intro Tryd.func53 rfl (Nat.le_of_ble_eq_true rfl) fun w0 A => ?_
  refine awp_seq ?_
  refine tx ?_
  refine aP rfl rfl ?_
  refine arun_nil ?_
  refine awp_seq ?_
  refine tx ?_
  refine mP rfl rfl ?_
  refine mP rfl rfl ?_
  refine r_callV (fun n => 7 + 1000 * n) (hI) rfl rfl Tryd.func86 rfl rfl (by first | rfl | simp [AV.noSl, AV.noSlL, AObj.noSl, PV.isV, bs_noSl]) (by first | rfl | simp [AV.noSl, AV.noSlL, AObj.noSl, PV.isV, bs_noSl]) rfl rfl rfl (by first | exact trivial | exact ⟨rfl, trivial⟩ | exact ⟨rfl, rfl, trivial⟩) rfl rfl rfl ?_
  refine r_pure a_geq rfl rfl ?_
  refine aP rfl rfl ?_
  refine arun_nil ?_
  refine awp_ret ?_
  refine fT (fun o => o) (.tmp _ _ _ _ rfl .nil) ?_ ?_
  · exact rfl
  · exact trivial
/-! numbers of states -/
def given (s : ST) : List Int := [s.a.mine, s.b.mine, s.c.mine, s.h.mine]
/-- is one of these numbers, other than 0, there already? -/
def dupB : List Int → List Int → Bool
  | _, [] => false
  | acc, n :: r => (decide (0 < n) && decide (n ∈ acc)) || dupB (acc ++ [n]) r
def stG (l : List ST) (i : Nat) : ST := l.getD i ⟨⟨#[]⟩, ⟨#[]⟩, KY0, KY0, KY0, HS0, []⟩
def allN (l : List ST) (i : Nat) : List Int := (l.take i).flatMap given
noncomputable def stStep (l : List ST) (i : Nat) : Int :=
  if stE (stG l i) ≠ 0 then stE (stG l i) else if 0 < i ∧ leK (stG l i).key (stG l (i - 1)).key = true then 6
  else if dupB (allN l i) (given (stG l i)) = true then 6 else 0
noncomputable def stsE (l : List ST) : Int := if 6 < l.length then 1 else fnz (stStep l) l.length
theorem dupB_congr : ∀ (ns acc acc' : List Int), (∀ n, 0 < n → (n ∈ acc ↔ n ∈ acc')) → dupB acc ns = dupB acc' ns
  | [], _, _, _ => rfl
  | n :: r, acc, acc', h => by
    unfold dupB
    rw [dupB_congr r (acc ++ [n]) (acc' ++ [n]) fun k hk => by simp [h k hk]]
    by_cases hn : 0 < n
    · simp [hn, h n hn]
    · simp [hn]
theorem dupB_zero (acc ns : List Int) : dupB acc (0 :: ns) = dupB (acc ++ [0]) ns := by simp [dupB]
def allT (l : List ST) (i : Nat) : List Int := (l.take i).flatMap fun s => 0 :: given s
theorem allT_next {l : List ST} {i : Nat} {s : ST} (h : l[i]? = some s) : allT l (i + 1) = allT l i ++ (0 :: given s) := by
  obtain ⟨h1, h2⟩ := List.getElem?_eq_some_iff.1 h
  unfold allT
  rw [List.take_succ_eq_append_getElem h1, h2, List.flatMap_append]
  simp
theorem allT_len (l : List ST) {i : Nat} (h : i ≤ l.length) : (allT l i).length = 5 * i := by
  unfold allT
  rw [chunk_len (k := 5) (fun _ => rfl), List.length_take]
  omega
theorem allT_N (l : List ST) (i : Nat) (n : Int) (hn : 0 < n) : n ∈ allT l i ↔ n ∈ allN l i := by
  unfold allT allN
  simp only [List.mem_flatMap, List.mem_cons]
  constructor
  · rintro ⟨s, h1, h2 | h2⟩
    · omega
    · exact ⟨s, h1, h2⟩
  · rintro ⟨s, h1, h2⟩
    exact ⟨s, h1, .inr h2⟩
theorem dupT (l : List ST) (i : Nat) (s : ST) : dupB (allT l i) (0 :: given s) = dupB (allN l i) (given s) := by
  rw [dupB_zero]
  exact dupB_congr _ _ _ fun n hn => by
    rw [List.mem_append, List.mem_singleton, allT_N l i n hn]
    constructor
    · rintro (h | h)
      · exact h
      · omega
    · exact .inl
theorem stG_at {l : List ST} {i : Nat} {s : ST} (h : l[i]? = some s) : stG l i = s := by unfold stG; rw [List.getD_eq_getElem?_getD, h]; rfl
theorem is_push (X : List Int) (n : Int) : is X ++ [.v (.int .i64 n)] = is (X ++ [n]) := by simp [is]
theorem is_len (X : List Int) : (is X).length = X.length := by simp [is]
set_option maxHeartbeats 8000000 in
theorem tcheck_s (l : List ST) (ok : ∀ s ∈ l, s.OK) (hn : l.length ≤ 1048576) : Fn Tryd.prog 24 [.p (.sl l.length 41 (l.flatMap ST.pv))] (.p (.v (.int .i64 (stsE l)))) [] := by
  obtain ⟨E, hE⟩ : ∃ E, stsE l = E := ⟨_, rfl⟩
  rw [hE]
  unfold stsE at hE
  refine fn_intro Tryd.func24 rfl (Nat.le_of_ble_eq_true rfl) fun w0 A => ?_
  refine awp_seq ?_
  refine tx ?_
  refine aP rfl rfl ?_
  refine arun_nil ?_
  refine awp_seq (awp_seq ?_)
  refine tx ?_
  refine mP rfl rfl ?_
  refine r_pure (a_lenS Tryd.underlying52) rfl rfl ?_
  refine r_pure a_gtr rfl rfl ?_
  refine arun_nil ?_
  refine thn_n ?_
  refine awp_cond _ rfl (fun h => ?_) (fun h => ?_)
  · have h6 : 6 < l.length := by simp at h; omega
    rw [if_pos h6] at hE
    subst hE
    refine awp_seq ?_
    refine tx ?_
    refine aP rfl rfl ?_
    refine arun_nil ?_
    refine awp_ret (thn_r ?_)
    refine fT (fun o => o) (.tmp _ _ _ _ rfl .nil) ?_ ?_
    · exact rfl
    · exact trivial
  have h6 : ¬ 6 < l.length := by simp at h; omega
  clear h
  rw [if_neg h6] at hE
  refine awp_skip (awp_seq ?_)
  refine tx ?_
  refine aP rfl rfl ?_
  refine arun_nil ?_
  refine awp_seq (awp_seq ?_)
  refine tx ?_
  refine mP rfl rfl ?_
  refine r_pure (a_lenS Tryd.underlying52) rfl rfl ?_
  refine mP rfl rfl ?_
  refine arun_nil ?_
  refine thn_n (awp_re (re_nil 3 100 3 1 rfl rfl) ?_)
  refine awp_block ?_
  refine awp_loopR (fun m st => ∃ i : Nat, m + i = l.length ∧ (∀ j, j < i → stStep l j = 0) ∧ st = St.of [(0, .p (.sl l.length 41 (l.flatMap ST.pv))), (3, .row 100), (12, .p (.sl l.length 41 (l.flatMap ST.pv))), (13, .p (.v (.int .i64 l.length))), (14, .p (.v (.int .i64 i)))] [(100, .row 3 1 (5 * i) (is (allT l i)))]) l.length ?_ ?_
  · refine ⟨_, re_of id _ _ ?_ ?_ rfl, 0, by omega, by omega, rfl⟩
    · (repeat (first | exact trivial | (refine ⟨⟨(by first | rfl | (simp; done) | (simp; omega)), rfl⟩, ?_⟩)))
    · exact ⟨⟨rfl, rfl⟩, trivial⟩
  rintro m st ⟨i, hi, hf, rfl⟩
  refine awp_seq ?_
  refine tx ?_
  refine r_pure a_lss rfl rfl ?_
  refine arun_nil ?_
  refine awp_seq ?_
  refine awp_cond _ rfl (fun h => ?_) (fun h => ?_)
  · have hlt : i < l.length := by simp at h; omega
    clear h
    obtain ⟨s, hs⟩ : ∃ s, l[i]? = some s := ⟨l[i], List.getElem?_eq_getElem hlt⟩
    have hch := chunk_at (f := ST.pv) (k := 41) (fun _ => rfl) hs
    have hle := chunk_le (f := ST.pv) (k := 41) (fun _ => rfl) hlt
    have hok := ok s (List.mem_of_getElem? hs)
    have hC := tright_s s hok
    have hhit := @fnz_hit (stStep l) i l.length hf hlt
    have hst : stStep l i = if stE s ≠ 0 then stE s else if 0 < i ∧ leK s.key (stG l (i - 1)).key = true then 6 else if dupB (allN l i) (given s) = true then 6 else 0 := by unfold stStep; rw [stG_at hs]
    rw [← dupT] at hst
    have hnx := allT_next hs
    have htl := allT_len l (Nat.le_of_lt hlt)
    have hprev : ∀ j, i = j + 1 → (((l.flatMap ST.pv).drop (j * 41)).take 41 = (stG l j).pv) ∧ j * 41 + 41 ≤ (l.flatMap ST.pv).length := by
      intro j hj
      obtain ⟨r, hr⟩ : ∃ r, l[j]? = some r := ⟨l[j], List.getElem?_eq_getElem (by omega)⟩
      rw [stG_at hr]
      exact ⟨chunk_at (f := ST.pv) (k := 41) (fun _ => rfl) hr, chunk_le (f := ST.pv) (k := 41) (fun _ => rfl) (by omega)⟩
    generalize hL : l.flatMap ST.pv = L at *
    generalize stE s = e at *
    refine awp_skip (awp_seq (awp_block (awp_seq ?_)))
    refine tx ?_
    refine mP rfl rfl ?_
    refine r_pure (a_indexAddrS Tryd.underlying52 sz51 (by omega) (by omega) rfl) rfl rfl ?_
    refine r_pure (a_loadNp Tryd.underlying51 rfl sz51 (by rw [List.length_drop]; omega) (hch)) rfl rfl ?_
    refine r_run (a_alloc 5 zr51 rfl) rfl rfl ⟨rfl, trivial⟩ ?_
    refine aP rfl rfl ?_
    refine r_run (a_storeAll (Y := .agg s.cells) sz51 rfl rfl (Nat.eq_of_beq_eq_true rfl)) rfl rfl ⟨rfl, trivial⟩ ?_
    refine arun_nil ?_
    refine awp_seq (awp_seq ?_)
    refine tx ?_
    refine r_run (a_loadN Tryd.underlying51 rfl sz51 (by first | exact Nat.le_of_ble_eq_true rfl | omega | (simp only [AV.cells, List.length_map]; omega)) (show _ = s.cells from rfl)) rfl rfl ⟨rfl, trivial⟩ ?_
    refine r_callS (fun n => 20 + 1000 * n) (hC) rfl rfl Tryd.func23 rfl rfl (by first | rfl | simp [AV.okInL, AV.okIn, okInL_map]) rfl rfl rfl (by first | exact trivial | exact ⟨rfl, trivial⟩ | exact ⟨rfl, rfl, trivial⟩) rfl rfl rfl ?_
    refine aP rfl rfl ?_
    refine arun_nil ?_
    refine awp_seq ?_
    refine tx ?_
    refine mP rfl rfl ?_
    refine r_pure a_neq rfl rfl ?_
    refine arun_nil ?_
    refine thn_n ?_
    refine awp_cond _ rfl (fun h => ?_) (fun h => ?_)
    · have h7 : e ≠ 0 := by simpa using h
      rw [if_pos h7] at hst
      rw [hhit (by rw [hst]; exact h7), hst] at hE
      subst hE
      refine awp_seq ?_
      refine tx ?_
      refine mP rfl rfl ?_
      refine aP rfl rfl ?_
      refine arun_nil ?_
      refine awp_ret (thn_r (inb_r (thn_r (thn_r (inb_r (thn_r ?_))))))
      refine fT (fun o => o) (.tmp _ _ _ _ rfl .nil) ?_ ?_
      · exact rfl
      · exact trivial
    have h7 : e = 0 := by simpa using h
    clear h
    rw [if_neg (by simp [h7])] at hst
    have hNum := numbers_s s.cells s.a.mine s.b.mine s.c.mine s.h.mine rfl rfl rfl rfl
    have hcase : i = 0 ∨ ∃ j, i = j + 1 := by
      cases i with
      | zero => exact .inl rfl
      | succ j => exact .inr ⟨j, rfl⟩
    rcases hcase with hi0 | ⟨j0, hij⟩
    · rw [if_neg (by omega)] at hst
      refine awp_skip (awp_seq (awp_seq ?_))
      refine awp_draw 4 (by kernel_rfl) ?_
      refine mP rfl rfl ?_
      refine r_pure (a_gtrV (c := false) (by simp; omega)) rfl rfl ?_
      refine mP rfl rfl ?_
      refine r_skipG rfl ?_
      refine r_skipG rfl ?_
      refine r_skipG rfl ?_
      refine r_skipG rfl ?_
      refine r_skipG rfl ?_
      refine r_skipG rfl ?_
      refine r_skipG rfl ?_
      refine r_skipG rfl ?_
      refine r_skipG rfl ?_
      refine r_pure a_pickF rfl rfl ?_
      refine arun_nil ⟨by kernel_rfl, ?_⟩
      refine thn_n ?_
      refine awp_cond _ rfl (fun h => ?_) (fun h => ?_)
      · cases h
      clear h
      obtain ⟨DD, hDD⟩ : ∃ b, dupB (allT l i) (0 :: given s) = b := ⟨_, rfl⟩
      rw [hDD] at hst
      refine awp_skip (awp_seq ?_)
      refine tx ?_
      refine r_run (a_loadN Tryd.underlying51 rfl sz51 (by first | exact Nat.le_of_ble_eq_true rfl | omega | (simp only [AV.cells, List.length_map]; omega)) (show _ = s.cells from rfl)) rfl rfl ⟨rfl, trivial⟩ ?_
      refine r_callS (fun n => 38 + 1000 * n) (hNum) rfl rfl Tryd.func52 rfl rfl (by first | rfl | simp [AV.okInL, AV.okIn, okInL_map]) rfl rfl rfl (by first | exact trivial | exact ⟨rfl, trivial⟩ | exact ⟨rfl, rfl, trivial⟩) rfl rfl rfl ?_
      refine mP rfl rfl ?_
      refine arun_nil ?_
      refine awp_block ?_
      refine awp_loopR (fun m' st => ∃ j : Nat, m' + j = 5 ∧ (∃ X : List Int, X.length = 5 * i + j ∧ DD = dupB X ((0 :: given s).drop j) ∧ X = allT l i ++ (0 :: given s).take j ∧ st = St.of [(0, .p (.sl l.length 41 L)), (3, .row 100), (12, .p (.sl l.length 41 L)), (13, .p (.v (.int .i64 l.length))), (14, .p (.v (.int .i64 i))), (38, .agg [.p (.v (.int .i64 0)), .p (.v (.int .i64 s.a.mine)), .p (.v (.int .i64 s.b.mine)), .p (.v (.int .i64 s.c.mine)), .p (.v (.int .i64 s.h.mine))]), (39, .p (.v (.int .i64 j)))] [(100, .row 3 1 (5 * i + j) (is X))])) 5 ?_ ?_
      · refine ⟨_, re_of id _ _ ?_ ?_ rfl, 0, by omega, allT l i, by omega, hDD.symm, by simp, rfl⟩
        · (repeat (first | exact trivial | (refine ⟨⟨(by first | rfl | (simp; done) | (simp; omega)), rfl⟩, ?_⟩)))
        · exact ⟨⟨rfl, rfl⟩, trivial⟩
      rintro m' st ⟨j, hj, X, hX, hdp, hXe, rfl⟩
      refine awp_seq ?_
      refine tx ?_
      refine r_pure a_lss rfl rfl ?_
      refine arun_nil ?_
      refine awp_seq ?_
      refine awp_cond _ rfl (fun h => ?_) (fun h => ?_)
      · have hlj : j < 5 := by simp at h; omega
        clear h
        obtain ⟨n, hn5⟩ : ∃ n, (0 :: given s)[j]? = some n := ⟨(0 :: given s)[j]'(by show j < 5; exact hlj), List.getElem?_eq_getElem _⟩
        have hix : ([.p (.v (.int .i64 0)), .p (.v (.int .i64 s.a.mine)), .p (.v (.int .i64 s.b.mine)), .p (.v (.int .i64 s.c.mine)), .p (.v (.int .i64 s.h.mine))] : List AV)[j * 1]? = some (.p (.v (.int .i64 n))) := by
          rw [Nat.mul_one]
          have : ([.p (.v (.int .i64 0)), .p (.v (.int .i64 s.a.mine)), .p (.v (.int .i64 s.b.mine)), .p (.v (.int .i64 s.c.mine)), .p (.v (.int .i64 s.h.mine))] : List AV) = (0 :: given s).map fun n => .p (.v (.int .i64 n)) := rfl
          rw [this, List.getElem?_map, hn5]
          rfl
        have hdr : (0 :: given s).drop j = n :: (0 :: given s).drop (j + 1) := by
          obtain ⟨q1, q2⟩ := List.getElem?_eq_some_iff.1 hn5
          rw [List.drop_eq_getElem_cons q1, q2]
        have htk : (0 :: given s).take (j + 1) = (0 :: given s).take j ++ [n] := by
          obtain ⟨q1, q2⟩ := List.getElem?_eq_some_iff.1 hn5
          rw [List.take_succ_eq_append_getElem q1, q2]
        rw [hdr, dupB] at hdp
        have hCt := contains_s X n (5 * i + j) hX (by omega)
        have hil := is_len X
        have hps := is_push X n
        generalize hIs : is X = IX at *
        refine awp_skip (awp_seq (awp_block (awp_seq ?_)))
        refine tx ?_
        refine r_pure (a_index1 Tryd.underlying102 sz3 Tryd.underlying3 rfl (by omega) (by omega) (show _ = some (.p (.v (.int .i64 n))) by rw [Int.toNat_natCast]; exact hix)) rfl rfl ?_
        refine aP rfl rfl ?_
        refine arun_nil ?_
        by_cases h0 : 0 < n
        · by_cases hm : n ∈ X
          · rw [show (decide (0 < n) && decide (n ∈ X) || dupB (X ++ [n]) ((0 :: given s).drop (j + 1))) = true by simp [h0, hm]] at hdp
            rw [if_pos hdp] at hst
            rw [hhit (by rw [hst]; decide), hst] at hE
            subst hE
            rw [decide_eq_true hm] at hCt
            refine awp_seq (awp_seq ?_)
            refine tx ?_
            refine mP rfl rfl ?_
            refine r_pure (a_gtrV (c := true) (by simpa using h0)) rfl rfl ?_
            refine mP rfl rfl ?_
            refine r_pure (a_move (r := .row _)) rfl rfl ?_
            refine mP rfl rfl ?_
            refine r_callV (fun n => 47 + 1000 * n) (hCt) rfl rfl Tryd.func53 rfl rfl (by first | rfl | simp [AV.noSl, AV.noSlL, AObj.noSl, PV.isV, bs_noSl]) (by first | rfl | simp [AV.noSl, AV.noSlL, AObj.noSl, PV.isV, bs_noSl]) rfl rfl rfl (by first | exact trivial | exact ⟨rfl, trivial⟩ | exact ⟨rfl, rfl, trivial⟩) rfl rfl rfl ?_
            refine r_pure a_pickT rfl rfl ?_
            refine arun_nil ?_
            refine thn_n ?_
            refine awp_cT rfl ?_
            refine awp_seq ?_
            refine tx ?_
            refine aP rfl rfl ?_
            refine arun_nil ?_
            (repeat (first | refine awp_seq ?_ | refine awp_block ?_ | refine awp_skip ?_ | refine awp_ret ?_ | refine awp_exit ?_ | refine thn_n ?_ | refine thn_r ?_ | refine thn_x ?_ | refine inb_n ?_ | refine inb_r ?_ | refine inb_x ?_ | refine inb_y rfl ?_))
            refine fT (fun o => o) (.tmp _ _ _ _ rfl .nil) ?_ ?_
            · exact rfl
            · exact trivial
          · rw [show (decide (0 < n) && decide (n ∈ X) || dupB (X ++ [n]) ((0 :: given s).drop (j + 1))) = dupB (X ++ [n]) ((0 :: given s).drop (j + 1)) by simp [hm]] at hdp
            rw [decide_eq_false hm] at hCt
            refine awp_seq (awp_seq ?_)
            refine tx ?_
            refine mP rfl rfl ?_
            refine r_pure (a_gtrV (c := true) (by simpa using h0)) rfl rfl ?_
            refine mP rfl rfl ?_
            refine r_pure (a_move (r := .row _)) rfl rfl ?_
            refine mP rfl rfl ?_
            refine r_callV (fun n => 47 + 1000 * n) (hCt) rfl rfl Tryd.func53 rfl rfl (by first | rfl | simp [AV.noSl, AV.noSlL, AObj.noSl, PV.isV, bs_noSl]) (by first | rfl | simp [AV.noSl, AV.noSlL, AObj.noSl, PV.isV, bs_noSl]) rfl rfl rfl (by first | exact trivial | exact ⟨rfl, trivial⟩ | exact ⟨rfl, rfl, trivial⟩) rfl rfl rfl ?_
            refine r_pure a_pickT rfl rfl ?_
            refine arun_nil ?_
            refine thn_n ?_
            refine awp_cF rfl ?_
            refine awp_skip (thn_n ?_)
            refine tx ?_
            refine r_pure (a_move (r := .row _)) rfl rfl ?_
            refine mP rfl rfl ?_
            refine r_run (xs := [.p (.v (.int .i64 n))]) (a_buildSlice (es := [.p (.v (.int .i64 n))]) (cs := [.v (.int .i64 n)]) 51 Tryd.underlying101 sz3 zc3 (Nat.le_of_ble_eq_true rfl) (Nat.le_of_ble_eq_true rfl) rfl (by kernel_rfl) (by kernel_rfl) (by kernel_rfl) (Nat.le_of_ble_eq_true rfl)) (by first | rfl | kernel_rfl) rfl ⟨rfl, trivial⟩ ?_
            refine r_run (a_append 52 Tryd.underlying101 eo3 (src_row) (by simp only [maxLen]; omega) (by omega) (show _ = 5 * i + (j + 1) by omega) hps) rfl rfl ⟨rfl, rfl, rfl, trivial⟩ ?_
            refine r_pure (a_assign (r := .row _)) rfl rfl ?_
            refine arun_nil ?_
            refine inb_n (thn_n ?_)
            refine tx ?_
            refine r_pure (a_add (by first | exact IntWalk.i64_in _ (by omega) | rfl)) rfl rfl ?_
            refine mP rfl rfl ?_
            refine arun_nil ?_
            refine thn_n ?_
            refine ⟨m' - 1, by omega, _, re_of (fun _ => 52) _ _ ?_ ?_ rfl, j + 1, by omega, X ++ [n], by simp [hX]; omega, hdp, by rw [hXe, htk, List.append_assoc], rfl⟩
            · (repeat (first | exact trivial | (refine ⟨⟨(by first | rfl | (simp; done) | (simp; omega)), rfl⟩, ?_⟩)))
            · exact ⟨⟨rfl, rfl⟩, trivial⟩
        · rw [show (decide (0 < n) && decide (n ∈ X) || dupB (X ++ [n]) ((0 :: given s).drop (j + 1))) = dupB (X ++ [n]) ((0 :: given s).drop (j + 1)) by simp [h0]] at hdp
          refine awp_seq (awp_seq ?_)
          refine tx ?_
          refine mP rfl rfl ?_
          refine r_pure (a_gtrV (c := false) (by simpa using h0)) rfl rfl ?_
          refine mP rfl rfl ?_
          refine r_skipG rfl ?_
          refine r_skipG rfl ?_
          refine r_skipG rfl ?_
          refine r_pure a_pickF rfl rfl ?_
          refine arun_nil ?_
          refine thn_n ?_
          refine awp_cF rfl ?_
          refine awp_skip (thn_n ?_)
          refine tx ?_
          refine r_pure (a_move (r := .row _)) rfl rfl ?_
          refine mP rfl rfl ?_
          refine r_run (xs := [.p (.v (.int .i64 n))]) (a_buildSlice (es := [.p (.v (.int .i64 n))]) (cs := [.v (.int .i64 n)]) 51 Tryd.underlying101 sz3 zc3 (Nat.le_of_ble_eq_true rfl) (Nat.le_of_ble_eq_true rfl) rfl (by kernel_rfl) (by kernel_rfl) (by kernel_rfl) (Nat.le_of_ble_eq_true rfl)) (by first | rfl | kernel_rfl) rfl ⟨rfl, trivial⟩ ?_
          refine r_run (a_append 52 Tryd.underlying101 eo3 (src_row) (by simp only [maxLen]; omega) (by omega) (show _ = 5 * i + (j + 1) by omega) hps) rfl rfl ⟨rfl, rfl, rfl, trivial⟩ ?_
          refine r_pure (a_assign (r := .row _)) rfl rfl ?_
          refine arun_nil ?_
          refine inb_n (thn_n ?_)
          refine tx ?_
          refine r_pure (a_add (by first | exact IntWalk.i64_in _ (by omega) | rfl)) rfl rfl ?_
          refine mP rfl rfl ?_
          refine arun_nil ?_
          refine thn_n ?_
          refine ⟨m' - 1, by omega, _, re_of (fun _ => 52) _ _ ?_ ?_ rfl, j + 1, by omega, X ++ [n], by simp [hX]; omega, hdp, by rw [hXe, htk, List.append_assoc], rfl⟩
          · (repeat (first | exact trivial | (refine ⟨⟨(by first | rfl | (simp; done) | (simp; omega)), rfl⟩, ?_⟩)))
          · exact ⟨⟨rfl, rfl⟩, trivial⟩
      have hge : j = 5 := by simp at h; omega
      clear h
      subst hge
      have hz : dupB X ((0 :: given s).drop 5) = false := rfl
      rw [hz] at hdp
      rw [if_neg (by rw [hdp]; decide)] at hst
      have hXn : X = allT l (i + 1) := by rw [hXe, hnx]; rfl
      subst hXn
      refine awp_exit (thn_x (thn_x (inb_x (inb_n (thn_n ?_)))))
      refine tx ?_
      refine r_pure (a_add (by first | exact IntWalk.i64_in _ (by omega) | rfl)) rfl rfl ?_
      refine mP rfl rfl ?_
      refine arun_nil ?_
      refine thn_n ?_
      refine ⟨m - 1, by omega, _, re_of id _ _ ?_ ?_ rfl, i + 1, by omega, fun q hq => ?_, rfl⟩
      · (repeat (first | exact trivial | (refine ⟨⟨(by first | rfl | (simp; done) | (simp; omega)), rfl⟩, ?_⟩)))
      · exact ⟨⟨rfl, rfl⟩, trivial⟩
      · by_cases eq : q = i
        · rw [eq]; exact hst
        · exact hf q (by omega)
    · obtain ⟨hpv, hple⟩ := hprev j0 hij
      rw [show i - 1 = j0 by omega] at hst
      have hpk : (L.drop (j0 * 41))[0]? = some (.v (.string (stG l j0).key)) := by
        have := congrArg (fun x => x[0]?) hpv
        rw [List.getElem?_take] at this
        simpa [ST.pv] using this
      generalize (stG l j0).key = pk at *
      have hlk : leK s.key pk = (sLt s.key pk || decide (s.key = pk)) := rfl
      generalize leK s.key pk = lk at *
      refine awp_skip (awp_seq (awp_seq ?_))
      refine awp_draw 4 (by kernel_rfl) ?_
      refine mP rfl rfl ?_
      refine r_pure (a_gtrV (c := true) (by simp; omega)) rfl rfl ?_
      refine mP rfl rfl ?_
      refine fA fi51_0 rfl rfl ?_
      refine l1 Tryd.underlying9 rfl rfl rfl ⟨rfl, trivial⟩ ?_
      refine mP rfl rfl ?_
      refine mP rfl rfl ?_
      refine r_pure (a_sub (by first | exact IntWalk.i64_in _ (by omega) | rfl)) rfl rfl ?_
      refine r_pure (a_indexAddrS Tryd.underlying52 sz51 (by omega) (by omega) (show _ = L.drop (j0 * 41) by congr 2; omega)) rfl rfl ?_
      refine r_pure (b_fieldAddrP fi51_0 rfl) rfl rfl ?_
      refine r_pure (a_load1p Tryd.underlying9 rfl hpk) rfl rfl ?_
      refine r_pure a_sleq rfl rfl ?_
      refine r_pure a_pickT rfl rfl ?_
      refine arun_nil ⟨by kernel_rfl, ?_⟩
      refine thn_n ?_
      refine awp_cond _ rfl (fun h => ?_) (fun h => ?_)
      · have h8 : lk = true := by rw [hlk]; exact h
        rw [if_pos ⟨by omega, h8⟩] at hst
        rw [hhit (by rw [hst]; decide), hst] at hE
        subst hE
        refine awp_seq ?_
        refine tx ?_
        refine aP rfl rfl ?_
        refine arun_nil ?_
        refine awp_ret (thn_r (inb_r (thn_r (thn_r (inb_r (thn_r ?_))))))
        refine fT (fun o => o) (.tmp _ _ _ _ rfl .nil) ?_ ?_
        · exact rfl
        · exact trivial
      have h8 : ¬ lk = true := by rw [hlk]; simpa using h
      rw [if_neg (by intro hh; exact h8 hh.2)] at hst
      clear h
      obtain ⟨DD, hDD⟩ : ∃ b, dupB (allT l i) (0 :: given s) = b := ⟨_, rfl⟩
      rw [hDD] at hst
      refine awp_skip (awp_seq ?_)
      refine tx ?_
      refine r_run (a_loadN Tryd.underlying51 rfl sz51 (by first | exact Nat.le_of_ble_eq_true rfl | omega | (simp only [AV.cells, List.length_map]; omega)) (show _ = s.cells from rfl)) rfl rfl ⟨rfl, trivial⟩ ?_
      refine r_callS (fun n => 38 + 1000 * n) (hNum) rfl rfl Tryd.func52 rfl rfl (by first | rfl | simp [AV.okInL, AV.okIn, okInL_map]) rfl rfl rfl (by first | exact trivial | exact ⟨rfl, trivial⟩ | exact ⟨rfl, rfl, trivial⟩) rfl rfl rfl ?_
      refine mP rfl rfl ?_
      refine arun_nil ?_
      refine awp_block ?_
      refine awp_loopR (fun m' st => ∃ j : Nat, m' + j = 5 ∧ (∃ X : List Int, X.length = 5 * i + j ∧ DD = dupB X ((0 :: given s).drop j) ∧ X = allT l i ++ (0 :: given s).take j ∧ st = St.of [(0, .p (.sl l.length 41 L)), (3, .row 100), (12, .p (.sl l.length 41 L)), (13, .p (.v (.int .i64 l.length))), (14, .p (.v (.int .i64 i))), (38, .agg [.p (.v (.int .i64 0)), .p (.v (.int .i64 s.a.mine)), .p (.v (.int .i64 s.b.mine)), .p (.v (.int .i64 s.c.mine)), .p (.v (.int .i64 s.h.mine))]), (39, .p (.v (.int .i64 j)))] [(100, .row 3 1 (5 * i + j) (is X))])) 5 ?_ ?_
      · refine ⟨_, re_of id _ _ ?_ ?_ rfl, 0, by omega, allT l i, by omega, hDD.symm, by simp, rfl⟩
        · (repeat (first | exact trivial | (refine ⟨⟨(by first | rfl | (simp; done) | (simp; omega)), rfl⟩, ?_⟩)))
        · exact ⟨⟨rfl, rfl⟩, trivial⟩
      rintro m' st ⟨j, hj, X, hX, hdp, hXe, rfl⟩
      refine awp_seq ?_
      refine tx ?_
      refine r_pure a_lss rfl rfl ?_
      refine arun_nil ?_
      refine awp_seq ?_
      refine awp_cond _ rfl (fun h => ?_) (fun h => ?_)
      · have hlj : j < 5 := by simp at h; omega
        clear h
        obtain ⟨n, hn5⟩ : ∃ n, (0 :: given s)[j]? = some n := ⟨(0 :: given s)[j]'(by show j < 5; exact hlj), List.getElem?_eq_getElem _⟩
        have hix : ([.p (.v (.int .i64 0)), .p (.v (.int .i64 s.a.mine)), .p (.v (.int .i64 s.b.mine)), .p (.v (.int .i64 s.c.mine)), .p (.v (.int .i64 s.h.mine))] : List AV)[j * 1]? = some (.p (.v (.int .i64 n))) := by
          rw [Nat.mul_one]
          have : ([.p (.v (.int .i64 0)), .p (.v (.int .i64 s.a.mine)), .p (.v (.int .i64 s.b.mine)), .p (.v (.int .i64 s.c.mine)), .p (.v (.int .i64 s.h.mine))] : List AV) = (0 :: given s).map fun n => .p (.v (.int .i64 n)) := rfl
          rw [this, List.getElem?_map, hn5]
          rfl
        have hdr : (0 :: given s).drop j = n :: (0 :: given s).drop (j + 1) := by
          obtain ⟨q1, q2⟩ := List.getElem?_eq_some_iff.1 hn5
          rw [List.drop_eq_getElem_cons q1, q2]
        have htk : (0 :: given s).take (j + 1) = (0 :: given s).take j ++ [n] := by
          obtain ⟨q1, q2⟩ := List.getElem?_eq_some_iff.1 hn5
          rw [List.take_succ_eq_append_getElem q1, q2]
        rw [hdr, dupB] at hdp
        have hCt := contains_s X n (5 * i + j) hX (by omega)
        have hil := is_len X
        have hps := is_push X n
        generalize hIs : is X = IX at *
        refine awp_skip (awp_seq (awp_block (awp_seq ?_)))
        refine tx ?_
        refine r_pure (a_index1 Tryd.underlying102 sz3 Tryd.underlying3 rfl (by omega) (by omega) (show _ = some (.p (.v (.int .i64 n))) by rw [Int.toNat_natCast]; exact hix)) rfl rfl ?_
        refine aP rfl rfl ?_
        refine arun_nil ?_
        by_cases h0 : 0 < n
        · by_cases hm : n ∈ X
          · rw [show (decide (0 < n) && decide (n ∈ X) || dupB (X ++ [n]) ((0 :: given s).drop (j + 1))) = true by simp [h0, hm]] at hdp
            rw [if_pos hdp] at hst
            rw [hhit (by rw [hst]; decide), hst] at hE
            subst hE
            rw [decide_eq_true hm] at hCt
            refine awp_seq (awp_seq ?_)
            refine tx ?_
            refine mP rfl rfl ?_
            refine r_pure (a_gtrV (c := true) (by simpa using h0)) rfl rfl ?_
            refine mP rfl rfl ?_
            refine r_pure (a_move (r := .row _)) rfl rfl ?_
            refine mP rfl rfl ?_
            refine r_callV (fun n => 47 + 1000 * n) (hCt) rfl rfl Tryd.func53 rfl rfl (by first | rfl | simp [AV.noSl, AV.noSlL, AObj.noSl, PV.isV, bs_noSl]) (by first | rfl | simp [AV.noSl, AV.noSlL, AObj.noSl, PV.isV, bs_noSl]) rfl rfl rfl (by first | exact trivial | exact ⟨rfl, trivial⟩ | exact ⟨rfl, rfl, trivial⟩) rfl rfl rfl ?_
            refine r_pure a_pickT rfl rfl ?_
            refine arun_nil ?_
            refine thn_n ?_
            refine awp_cT rfl ?_
            refine awp_seq ?_
            refine tx ?_
            refine aP rfl rfl ?_
            refine arun_nil ?_
            (repeat (first | refine awp_seq ?_ | refine awp_block ?_ | refine awp_skip ?_ | refine awp_ret ?_ | refine awp_exit ?_ | refine thn_n ?_ | refine thn_r ?_ | refine thn_x ?_ | refine inb_n ?_ | refine inb_r ?_ | refine inb_x ?_ | refine inb_y rfl ?_))
            refine fT (fun o => o) (.tmp _ _ _ _ rfl .nil) ?_ ?_
            · exact rfl
            · exact trivial
          · rw [show (decide (0 < n) && decide (n ∈ X) || dupB (X ++ [n]) ((0 :: given s).drop (j + 1))) = dupB (X ++ [n]) ((0 :: given s).drop (j + 1)) by simp [hm]] at hdp
            rw [decide_eq_false hm] at hCt
            refine awp_seq (awp_seq ?_)
            refine tx ?_
            refine mP rfl rfl ?_
            refine r_pure (a_gtrV (c := true) (by simpa using h0)) rfl rfl ?_
            refine mP rfl rfl ?_
            refine r_pure (a_move (r := .row _)) rfl rfl ?_
            refine mP rfl rfl ?_
            refine r_callV (fun n => 47 + 1000 * n) (hCt) rfl rfl Tryd.func53 rfl rfl (by first | rfl | simp [AV.noSl, AV.noSlL, AObj.noSl, PV.isV, bs_noSl]) (by first | rfl | simp [AV.noSl, AV.noSlL, AObj.noSl, PV.isV, bs_noSl]) rfl rfl rfl (by first | exact trivial | exact ⟨rfl, trivial⟩ | exact ⟨rfl, rfl, trivial⟩) rfl rfl rfl ?_
            refine r_pure a_pickT rfl rfl ?_
            refine arun_nil ?_
            refine thn_n ?_
            refine awp_cF rfl ?_
            refine awp_skip (thn_n ?_)
            refine tx ?_
            refine r_pure (a_move (r := .row _)) rfl rfl ?_
            refine mP rfl rfl ?_
            refine r_run (xs := [.p (.v (.int .i64 n))]) (a_buildSlice (es := [.p (.v (.int .i64 n))]) (cs := [.v (.int .i64 n)]) 51 Tryd.underlying101 sz3 zc3 (Nat.le_of_ble_eq_true rfl) (Nat.le_of_ble_eq_true rfl) rfl (by kernel_rfl) (by kernel_rfl) (by kernel_rfl) (Nat.le_of_ble_eq_true rfl)) (by first | rfl | kernel_rfl) rfl ⟨rfl, trivial⟩ ?_
            refine r_run (a_append 52 Tryd.underlying101 eo3 (src_row) (by simp only [maxLen]; omega) (by omega) (show _ = 5 * i + (j + 1) by omega) hps) rfl rfl ⟨rfl, rfl, rfl, trivial⟩ ?_
            refine r_pure (a_assign (r := .row _)) rfl rfl ?_
            refine arun_nil ?_
            refine inb_n (thn_n ?_)
            refine tx ?_
            refine r_pure (a_add (by first | exact IntWalk.i64_in _ (by omega) | rfl)) rfl rfl ?_
            refine mP rfl rfl ?_
            refine arun_nil ?_
            refine thn_n ?_
            refine ⟨m' - 1, by omega, _, re_of (fun _ => 52) _ _ ?_ ?_ rfl, j + 1, by omega, X ++ [n], by simp [hX]; omega, hdp, by rw [hXe, htk, List.append_assoc], rfl⟩
            · (repeat (first | exact trivial | (refine ⟨⟨(by first | rfl | (simp; done) | (simp; omega)), rfl⟩, ?_⟩)))
            · exact ⟨⟨rfl, rfl⟩, trivial⟩
        · rw [show (decide (0 < n) && decide (n ∈ X) || dupB (X ++ [n]) ((0 :: given s).drop (j + 1))) = dupB (X ++ [n]) ((0 :: given s).drop (j + 1)) by simp [h0]] at hdp
          refine awp_seq (awp_seq ?_)
          refine tx ?_
          refine mP rfl rfl ?_
          refine r_pure (a_gtrV (c := false) (by simpa using h0)) rfl rfl ?_
          refine mP rfl rfl ?_
          refine r_skipG rfl ?_
          refine r_skipG rfl ?_
          refine r_skipG rfl ?_
          refine r_pure a_pickF rfl rfl ?_
          refine arun_nil ?_
          refine thn_n ?_
          refine awp_cF rfl ?_
          refine awp_skip (thn_n ?_)
          refine tx ?_
          refine r_pure (a_move (r := .row _)) rfl rfl ?_
          refine mP rfl rfl ?_
          refine r_run (xs := [.p (.v (.int .i64 n))]) (a_buildSlice (es := [.p (.v (.int .i64 n))]) (cs := [.v (.int .i64 n)]) 51 Tryd.underlying101 sz3 zc3 (Nat.le_of_ble_eq_true rfl) (Nat.le_of_ble_eq_true rfl) rfl (by kernel_rfl) (by kernel_rfl) (by kernel_rfl) (Nat.le_of_ble_eq_true rfl)) (by first | rfl | kernel_rfl) rfl ⟨rfl, trivial⟩ ?_
          refine r_run (a_append 52 Tryd.underlying101 eo3 (src_row) (by simp only [maxLen]; omega) (by omega) (show _ = 5 * i + (j + 1) by omega) hps) rfl rfl ⟨rfl, rfl, rfl, trivial⟩ ?_
          refine r_pure (a_assign (r := .row _)) rfl rfl ?_
          refine arun_nil ?_
          refine inb_n (thn_n ?_)
          refine tx ?_
          refine r_pure (a_add (by first | exact IntWalk.i64_in _ (by omega) | rfl)) rfl rfl ?_
          refine mP rfl rfl ?_
          refine arun_nil ?_
          refine thn_n ?_
          refine ⟨m' - 1, by omega, _, re_of (fun _ => 52) _ _ ?_ ?_ rfl, j + 1, by omega, X ++ [n], by simp [hX]; omega, hdp, by rw [hXe, htk, List.append_assoc], rfl⟩
          · (repeat (first | exact trivial | (refine ⟨⟨(by first | rfl | (simp; done) | (simp; omega)), rfl⟩, ?_⟩)))
          · exact ⟨⟨rfl, rfl⟩, trivial⟩
      have hge : j = 5 := by simp at h; omega
      clear h
      subst hge
      have hz : dupB X ((0 :: given s).drop 5) = false := rfl
      rw [hz] at hdp
      rw [if_neg (by rw [hdp]; decide)] at hst
      have hXn : X = allT l (i + 1) := by rw [hXe, hnx]; rfl
      subst hXn
      refine awp_exit (thn_x (thn_x (inb_x (inb_n (thn_n ?_)))))
      refine tx ?_
      refine r_pure (a_add (by first | exact IntWalk.i64_in _ (by omega) | rfl)) rfl rfl ?_
      refine mP rfl rfl ?_
      refine arun_nil ?_
      refine thn_n ?_
      refine ⟨m - 1, by omega, _, re_of id _ _ ?_ ?_ rfl, i + 1, by omega, fun q hq => ?_, rfl⟩
      · (repeat (first | exact trivial | (refine ⟨⟨(by first | rfl | (simp; done) | (simp; omega)), rfl⟩, ?_⟩)))
      · exact ⟨⟨rfl, rfl⟩, trivial⟩
      · by_cases eq : q = i
        · rw [eq]; exact hst
        · exact hf q (by omega)
  have hge : i = l.length := by simp at h; omega
  clear h
  subst hge
  rw [fnz_ok hf] at hE
  subst hE
  refine awp_exit (awp_seq ?_)
  refine tx ?_
  refine aP rfl rfl ?_
  refine arun_nil ?_
  refine awp_ret ?_
  refine fT (fun o => o) (.tmp _ _ _ _ rfl .nil) ?_ ?_
  · exact rfl
  · exact trivial
end Go.Proofs.YtcjnecmgificmaaDoor
