/- line.Split, the reference's LinesOf, equality of lines, over data. -/
import Derived.Test.YtgpleldhddpcgaaGreatDoorSLn1
import Derived.Test.YtgpleldhddpcgaaGreatDoorSSq
namespace Go.Proofs.YtgpleldhddpcgaaGreatDoor
open Go.RowKit Go.Sort
set_option linter.unusedVariables false
set_option linter.unusedSimpArgs false
set_option maxRecDepth 100000
def pcE (t : ByteArray) : Int := if 0 ≤ ixB t 61 then lineE (cutA t 61) (cutZ t 61) else 3
def lnOf (t : ByteArray) : LnP := (cutA t 61, cutZ t 61)
/-- the first faulty line -/
def badAt : List ByteArray → Nat → Option (Int × Int)
  | [], _ => none
  | t :: l, i => if pcE t ≠ 0 then some ((i : Int) + 1, pcE t) else badAt l (i + 1)
theorem badAt_hit {t : ByteArray} : ∀ {l : List ByteArray} {i k : Nat}, l[i]? = some t → (∀ q ∈ l.take i, pcE q = 0) → pcE t ≠ 0 → badAt l k = some (((k + i : Nat) : Int) + 1, pcE t)
  | [], i, k, h, _, _ => by simp at h
  | a :: l, 0, k, h, _, ht => by
    simp at h; subst h
    unfold badAt
    rw [if_pos ht]; rfl
  | a :: l, i + 1, k, h, hf, ht => by
    have h0 := hf a (by simp)
    unfold badAt
    rw [if_neg (by simp [h0]), badAt_hit (i := i) (k := k + 1) (by simpa using h) (fun q hq => hf q (by simp [hq])) ht]
    congr 3; omega
theorem badAt_ok : ∀ {l : List ByteArray} {k : Nat}, (∀ q ∈ l, pcE q = 0) → badAt l k = none
  | [], _, _ => rfl
  | a :: l, k, h => by
    unfold badAt
    rw [if_neg (by simp [h a (by simp)]), badAt_ok fun q hq => h q (by simp [hq])]
theorem takeB_ok {l : List ByteArray} {i : Nat} {p : ByteArray} (hi : l[i]? = some p) (hf : ∀ q ∈ l.take i, pcE q = 0) (hp : pcE p = 0) : ∀ q ∈ l.take (i + 1), pcE q = 0 := by
  obtain ⟨h1, h2⟩ := List.getElem?_eq_some_iff.1 hi
  intro q hq
  rw [List.take_succ_eq_append_getElem h1, h2] at hq
  rcases List.mem_append.1 hq with hq | hq
  · exact hf q hq
  · have : q = p := by simpa using hq
    rw [this]; exact hp
theorem takeB_next {l : List ByteArray} {i : Nat} {p : ByteArray} (hi : l[i]? = some p) : ((l.take (i + 1)).map lnOf).flatMap lnC = ((l.take i).map lnOf).flatMap lnC ++ [.v (.string (cutA p 61)), .v (.string (cutZ p 61))] := by
  obtain ⟨h1, h2⟩ := List.getElem?_eq_some_iff.1 hi
  rw [List.take_succ_eq_append_getElem h1, h2, List.map_append, List.flatMap_append]
  rfl
def spO (s : ByteArray) : Option (Int × Int) := if 3000 < s.size then some (0, 1) else if s = ⟨#[]⟩ then some (0, 0) else if 59 < cntB s 10 then some (0, 1) else badAt (spl s 10) 0
def spR : Option (Int × Int) → AV
  | some (n, e) => .tup [.p (.v (.slice none 0 0)), .p (.v (.int .i64 n)), .p (.v (.int .i64 e))]
  | none => .tup [.row 0, .p (.v (.int .i64 0)), .p (.v (.int .i64 0))]
def spN (l : List LnP) : Option (Int × Int) → List (Nat × AObj)
  | some _ => []
  | none => [(0, .row 111 2 l.length (l.flatMap lnC))]
set_option maxHeartbeats 4000000 in
theorem lsplit_s (s : ByteArray) : Fn Tryz.prog 71 [.p (.v (.string s))] (spR (spO s)) (spN ((spl s 10).map lnOf) (spO s)) := by
  obtain ⟨o, hO⟩ : ∃ o, spO s = o := ⟨_, rfl⟩
  rw [hO]
  unfold spO at hO
  refine fn_intro Tryz.func71 rfl (Nat.le_of_ble_eq_true rfl) fun w0 A => ?_
  refine awp_seq ?_
  refine tx ?_
  refine aP rfl rfl ?_
  refine aP rfl rfl ?_
  refine aP rfl rfl ?_
  refine arun_nil ?_
  refine awp_seq (awp_seq ?_)
  refine tx ?_
  refine mP rfl rfl ?_
  refine r_pure (a_lenStr Tryz.underlying9) rfl rfl ?_
  refine r_pure a_gtr rfl rfl ?_
  refine arun_nil ?_
  refine thn_n ?_
  refine awp_cond _ rfl (fun h => ?_) (fun h => ?_)
  · have h1 : 3000 < s.size := by simp at h; omega
    rw [if_pos h1] at hO
    subst hO
    refine awp_seq ?_
    refine tx ?_
    refine aP rfl rfl ?_
    refine aP rfl rfl ?_
    refine aP rfl rfl ?_
    refine arun_nil ?_
    refine awp_ret (thn_r ?_)
    refine fT (fun o => o) (.tmp _ _ _ _ rfl (.tmp _ _ _ _ rfl (.tmp _ _ _ _ rfl .nil))) ?_ ?_
    · exact rfl
    · exact trivial
  have h1 : ¬ 3000 < s.size := by simp at h; omega
  clear h
  rw [if_neg h1] at hO
  refine awp_skip (awp_seq (awp_seq ?_))
  refine tx ?_
  refine mP rfl rfl ?_
  refine r_pure a_seql rfl rfl ?_
  refine arun_nil ?_
  refine thn_n ?_
  refine awp_cond _ rfl (fun h => ?_) (fun h => ?_)
  · have h2 : s = ⟨#[]⟩ := by simpa using h
    rw [if_pos h2] at hO
    subst hO
    refine awp_seq ?_
    refine tx ?_
    refine aP rfl rfl ?_
    refine aP rfl rfl ?_
    refine aP rfl rfl ?_
    refine arun_nil ?_
    refine awp_ret (thn_r ?_)
    refine fT (fun o => o) (.tmp _ _ _ _ rfl (.tmp _ _ _ _ rfl (.tmp _ _ _ _ rfl .nil))) ?_ ?_
    · exact rfl
    · exact trivial
  have h2 : s ≠ ⟨#[]⟩ := by simpa using h
  clear h
  rw [if_neg h2] at hO
  have hSp := split1_s s 10 (by omega)
  have hlen := spl_len s 10
  have hsz := spl_size s 10
  have hcl := cntB_le s 10
  generalize spl s 10 = ps at *
  generalize cntB s 10 = N at *
  refine awp_skip (awp_seq ?_)
  refine tx ?_
  refine mP rfl rfl ?_
  refine r_callV (fun n => 20 + 1000 * n) (hSp) rfl rfl Tryz.func117 rfl rfl (by first | rfl | simp [AV.noSl, AV.noSlL, AObj.noSl, PV.isV, strs]) (by first | rfl | simp [AV.noSl, AV.noSlL, AObj.noSl, PV.isV, strs]) rfl rfl rfl (by first | exact trivial | exact ⟨rfl, trivial⟩ | exact ⟨rfl, rfl, trivial⟩) rfl rfl rfl ?_
  refine r_pure (a_assign (r := .row _)) rfl rfl ?_
  refine arun_nil ?_
  refine awp_seq (awp_seq ?_)
  refine tx ?_
  refine r_pure (a_move (r := .row _)) rfl rfl ?_
  refine r_run (a_lenR Tryz.underlying153) rfl rfl ⟨rfl, trivial⟩ ?_
  refine r_pure a_gtr rfl rfl ?_
  refine arun_nil ?_
  refine thn_n ?_
  refine awp_cond _ rfl (fun h => ?_) (fun h => ?_)
  · have h3 : 59 < N := by simp at h; omega
    rw [if_pos h3] at hO
    subst hO
    refine awp_seq ?_
    refine tx ?_
    refine aP rfl rfl ?_
    refine aP rfl rfl ?_
    refine aP rfl rfl ?_
    refine arun_nil ?_
    refine awp_ret (thn_r ?_)
    refine fT (fun o => o) (.tmp _ _ _ _ rfl (.tmp _ _ _ _ rfl (.tmp _ _ _ _ rfl .nil))) ?_ ?_
    · exact rfl
    · exact trivial
  have h3 : ¬ 59 < N := by simp at h; omega
  clear h
  rw [if_neg h3] at hO
  refine awp_skip (awp_seq ?_)
  refine tx ?_
  refine aP rfl rfl ?_
  refine arun_nil ?_
  refine awp_seq (awp_seq ?_)
  refine tx ?_
  refine r_pure (a_move (r := .row _)) rfl rfl ?_
  refine r_run (a_lenR Tryz.underlying153) rfl rfl ⟨rfl, trivial⟩ ?_
  refine mP rfl rfl ?_
  refine arun_nil ?_
  refine thn_n (awp_re (re_nil 6 100 111 2 rfl rfl) ?_)
  refine awp_block ?_
  refine awp_loopR (fun m st => ∃ i : Nat, m + i = N + 1 ∧ (∀ q ∈ ps.take i, pcE q = 0) ∧ st = St.of [(6, .row 100), (24, .row 20), (25, .p (.v (.int .i64 (N + 1 : Nat)))), (26, .p (.v (.int .i64 i)))] [(20, .row 9 1 (N + 1) (strs ps)), (100, .row 111 2 i (((ps.take i).map lnOf).flatMap lnC))]) (N + 1) ?_ ?_
  · refine ⟨_, re_of id _ _ ?_ ?_ rfl, 0, by omega, by simp, rfl⟩
    · (repeat (first | exact trivial | (refine ⟨⟨(by first | rfl | (simp; done) | (simp; omega)), rfl⟩, ?_⟩)))
    · exact ⟨⟨rfl, rfl⟩, ⟨rfl, rfl⟩, trivial⟩
  rintro m st ⟨i, hi, hf, rfl⟩
  refine awp_seq ?_
  refine tx ?_
  refine r_pure a_lss rfl rfl ?_
  refine arun_nil ?_
  refine awp_seq ?_
  refine awp_cond _ rfl (fun h => ?_) (fun h => ?_)
  · have hlt : i < ps.length := by simp at h; omega
    clear h
    obtain ⟨p, hp⟩ : ∃ p, ps[i]? = some p := ⟨ps[i], List.getElem?_eq_getElem hlt⟩
    have hat := strs_get hp
    have hpz := hsz p (List.mem_of_getElem? hp)
    have hbad := @badAt_hit p ps i 0 hp hf
    have hok := takeB_ok hp hf
    have hnx := takeB_next hp
    have hCut := cut1_s p 61 (by omega)
    have hC := lcheck_s (cutA p 61) (cutZ p 61) (by have := cutA_size p 61; omega) (by have := cutZ_size p 61; omega)
    have hE : pcE p = if 0 ≤ ixB p 61 then lineE (cutA p 61) (cutZ p 61) else 3 := rfl
    have hsl : (strs ps).length = N + 1 := by rw [strs_len, hlen]
    rw [Nat.zero_add] at hbad
    generalize pcE p = pe at *
    generalize lineE (cutA p 61) (cutZ p 61) = e at *
    generalize cutA p 61 = k at *
    generalize cutZ p 61 = v at *
    generalize ixB p 61 = ix at *
    generalize strs ps = SP at *
    change Fn Tryz.prog _ [.agg [.p (.v (.string k)), .p (.v (.string v))]] _ _ at hC
    refine awp_skip (awp_seq (awp_block (awp_seq ?_)))
    refine tx ?_
    refine mP rfl rfl ?_
    refine r_run (a_indexAddrR Tryz.underlying153 sz9 (by omega) (by omega) (show _ = i by omega)) rfl rfl ⟨rfl, trivial⟩ ?_
    refine r_run (a_load1r Tryz.underlying9 rfl hat) rfl rfl ⟨rfl, trivial⟩ ?_
    refine aP rfl rfl ?_
    refine aP rfl rfl ?_
    refine arun_nil ?_
    refine awp_seq ?_
    refine tx ?_
    refine mP rfl rfl ?_
    refine r_callV (fun n => 33 + 1000 * n) (hCut) rfl rfl Tryz.func118 rfl rfl (by first | rfl | simp [AV.noSl, AV.noSlL, AObj.noSl, PV.isV, bs_noSl]) (by first | rfl | simp [AV.noSl, AV.noSlL, AObj.noSl, PV.isV, bs_noSl]) rfl rfl rfl (by first | exact trivial | exact ⟨rfl, trivial⟩ | exact ⟨rfl, rfl, trivial⟩) rfl rfl rfl ?_
    refine r_pure (a_move (r := .tup _)) rfl rfl ?_
    refine r_pure (a_extract rfl) rfl rfl ?_
    refine r_pure (a_extract rfl) rfl rfl ?_
    refine r_pure (a_extract rfl) rfl rfl ?_
    refine aP rfl rfl ?_
    refine aP rfl rfl ?_
    refine aP rfl rfl ?_
    refine arun_nil ?_
    refine awp_seq (awp_seq ?_)
    refine tx ?_
    refine mP rfl rfl ?_
    refine r_pure a_not rfl rfl ?_
    refine arun_nil ?_
    refine thn_n ?_
    refine awp_cond _ rfl (fun h => ?_) (fun h => ?_)
    · have h4 : ¬ 0 ≤ ix := by simp at h; omega
      rw [if_neg h4] at hE
      rw [hbad (by omega), hE] at hO
      subst hO
      refine awp_seq ?_
      refine tx ?_
      refine mP rfl rfl ?_
      refine r_pure (a_add (by first | exact IntWalk.i64_in _ (by omega) | rfl)) rfl rfl ?_
      refine aP rfl rfl ?_
      refine aP rfl rfl ?_
      refine aP rfl rfl ?_
      refine arun_nil ?_
      refine awp_ret (thn_r (inb_r (thn_r (thn_r (inb_r (thn_r ?_))))))
      refine fT (fun o => o) (.tmp _ _ _ _ rfl (.tmp _ _ _ _ rfl (.tmp _ _ _ _ rfl .nil))) ?_ ?_
      · exact rfl
      · exact trivial
    have h4 : 0 ≤ ix := by simp at h; omega
    clear h
    rw [if_pos h4] at hE
    refine awp_skip (awp_seq ?_)
    refine tx ?_
    refine mP rfl rfl ?_
    refine mP rfl rfl ?_
    refine r_pure (b_build pl111 zr111 rfl rfl) rfl rfl ?_
    refine r_run (a_alloc 12 zr111 rfl) rfl rfl ⟨rfl, trivial⟩ ?_
    refine r_run (a_storeAll (Y := .agg _) sz111 rfl (by first | exact Nat.eq_of_beq_eq_true rfl | (simp only [AV.cells, List.length_map]; first | assumption | omega)) (Nat.eq_of_beq_eq_true rfl)) rfl rfl ⟨rfl, trivial⟩ ?_
    refine arun_nil ?_
    refine awp_seq (awp_seq ?_)
    refine tx ?_
    refine lN Tryz.underlying111 rfl sz111 rfl rfl ⟨rfl, trivial⟩ ?_
    refine r_callV (fun n => 45 + 1000 * n) (hC) rfl rfl Tryz.func110 rfl rfl (by first | rfl | simp [AV.noSl, AV.noSlL, AObj.noSl, PV.isV, bs_noSl]) (by first | rfl | simp [AV.noSl, AV.noSlL, AObj.noSl, PV.isV, bs_noSl]) rfl rfl rfl (by first | exact trivial | exact ⟨rfl, trivial⟩ | exact ⟨rfl, rfl, trivial⟩) rfl rfl rfl ?_
    refine aP rfl rfl ?_
    refine arun_nil ?_
    refine awp_seq ?_
    refine tx ?_
    refine mP rfl rfl ?_
    refine r_pure a_neq rfl rfl ?_
    refine arun_nil ?_
    refine thn_n ?_
    refine awp_cond _ rfl (fun h => ?_) (fun h => ?_)
    · have h5 : e ≠ 0 := by simpa using h
      rw [hbad (by omega), hE] at hO
      subst hO
      refine awp_seq ?_
      refine tx ?_
      refine mP rfl rfl ?_
      refine r_pure (a_add (by first | exact IntWalk.i64_in _ (by omega) | rfl)) rfl rfl ?_
      refine mP rfl rfl ?_
      refine aP rfl rfl ?_
      refine aP rfl rfl ?_
      refine aP rfl rfl ?_
      refine arun_nil ?_
      refine awp_ret (thn_r (inb_r (thn_r (thn_r (inb_r (thn_r ?_))))))
      refine fT (fun o => o) (.tmp _ _ _ _ rfl (.tmp _ _ _ _ rfl (.tmp _ _ _ _ rfl .nil))) ?_ ?_
      · exact rfl
      · exact trivial
    have h5 : e = 0 := by simpa using h
    clear h
    refine awp_skip (thn_n ?_)
    refine tx ?_
    refine r_pure (a_move (r := .row _)) rfl rfl ?_
    refine lN Tryz.underlying111 rfl sz111 rfl rfl ⟨rfl, trivial⟩ ?_
    refine r_run (xs := [.agg [.p (.v (.string k)), .p (.v (.string v))]]) (a_buildSlice (es := [.p (.v (.string k)), .p (.v (.string v))]) (cs := [.v (.string k), .v (.string v)]) 53 Tryz.underlying109 sz111 zc111 (Nat.le_of_ble_eq_true rfl) (Nat.le_of_ble_eq_true rfl) rfl (by kernel_rfl) (by kernel_rfl) (by kernel_rfl) (Nat.le_of_ble_eq_true rfl)) (by first | rfl | kernel_rfl) rfl ⟨rfl, trivial⟩ ?_
    refine r_run (a_append 54 Tryz.underlying109 eo111 (src_row) (by simp only [maxLen]; omega) (by omega) (show _ = i + 1 by omega) hnx.symm) rfl rfl ⟨rfl, rfl, rfl, trivial⟩ ?_
    refine r_pure (a_assign (r := .row _)) rfl rfl ?_
    refine arun_nil ?_
    refine inb_n (thn_n ?_)
    refine tx ?_
    refine r_pure (a_add (by first | exact IntWalk.i64_in _ (by omega) | rfl)) rfl rfl ?_
    refine mP rfl rfl ?_
    refine arun_nil ?_
    refine thn_n ?_
    refine ⟨m - 1, by omega, _, re_of (fun o => bif Nat.beq o 20 then 20 else 54) _ _ ?_ ?_ rfl, i + 1, by omega, hok (by omega), rfl⟩
    · (repeat (first | exact trivial | (refine ⟨⟨(by first | rfl | (simp; done) | (simp; omega)), rfl⟩, ?_⟩)))
    · exact ⟨⟨rfl, rfl⟩, ⟨rfl, rfl⟩, trivial⟩
  have hge : i = N + 1 := by simp at h; omega
  clear h
  subst hge
  rw [← hlen, List.take_length] at hf ⊢
  rw [badAt_ok hf] at hO
  subst hO
  rw [show spN (ps.map lnOf) none = [(0, .row 111 2 ps.length ((ps.map lnOf).flatMap lnC))] by simp only [spN, List.length_map]]
  refine awp_exit (awp_seq ?_)
  refine tx ?_
  refine r_pure (a_move (r := .row _)) rfl rfl ?_
  refine r_pure (a_assign (r := .row _)) rfl rfl ?_
  refine aP rfl rfl ?_
  refine aP rfl rfl ?_
  refine arun_nil ?_
  refine awp_ret ?_
  refine fT (fun _ => 100) (.tmp _ _ _ _ rfl (.tmp _ _ _ _ rfl (.tmp _ _ _ _ rfl .nil))) ?_ ?_
  · exact rfl
  · exact ⟨⟨rfl, rfl⟩, trivial⟩
set_option maxHeartbeats 4000000 in
theorem refLOf_s (s : ByteArray) : Fn Tryz.prog 74 [.p (.v (.string s))] (spR (spO s)) (spN ((spl s 10).map lnOf) (spO s)) := by
  obtain ⟨o, hO⟩ : ∃ o, spO s = o := ⟨_, rfl⟩
  rw [hO]
  unfold spO at hO
  have hCn := count1_s s 10
  have hlen := spl_len s 10
  have hsz := spl_size s 10
  have hcl := cntB_le s 10
  have hSp := split1_s s 10
  generalize spl s 10 = ps at *
  generalize cntB s 10 = N at *
  refine fn_intro Tryz.func74 rfl (Nat.le_of_ble_eq_true rfl) fun w0 A => ?_
  refine awp_seq ?_
  refine tx ?_
  refine aP rfl rfl ?_
  refine aP rfl rfl ?_
  refine aP rfl rfl ?_
  refine arun_nil ?_
  refine awp_seq (awp_seq ?_)
  refine tx ?_
  refine mP rfl rfl ?_
  refine r_pure (a_lenStr Tryz.underlying9) rfl rfl ?_
  refine r_pure a_gtr rfl rfl ?_
  refine mP rfl rfl ?_
  refine mb2 _ rfl rfl (fun hb => (a_move (r := .p _))) (fun _ => trivial) ?_
  refine mb2 _ rfl rfl (fun _ => a_callS0 Tryz.func122 rfl rfl (hCn) (by first | rfl | simp [AV.okInL, AV.okIn, okInL_map]) rfl) (fun _ => trivial) ?_
  refine mb2 _ rfl rfl (fun hb => a_gtr) (fun _ => trivial) ?_
  refine r_pure (a_or (by first | exact id | (simp; done) | grind)) rfl rfl ?_
  refine arun_nil ?_
  refine thn_n ?_
  refine awp_cond _ rfl (fun h => ?_) (fun h => ?_)
  · have h1 : 3000 < s.size ∨ 59 < N := by simp at h; omega
    by_cases h0 : 3000 < s.size
    · rw [if_pos h0] at hO
      subst hO
      refine awp_seq ?_
      refine tx ?_
      refine aP rfl rfl ?_
      refine aP rfl rfl ?_
      refine aP rfl rfl ?_
      refine arun_nil ?_
      refine awp_ret (thn_r ?_)
      refine fT (fun o => o) (.tmp _ _ _ _ rfl (.tmp _ _ _ _ rfl (.tmp _ _ _ _ rfl .nil))) ?_ ?_
      · exact rfl
      · exact trivial
    · rw [if_neg h0] at hO
      have h2 : s ≠ ⟨#[]⟩ := by
        intro e
        have : s.size = 0 := by rw [e]; rfl
        omega
      rw [if_neg h2, if_pos (by omega)] at hO
      subst hO
      refine awp_seq ?_
      refine tx ?_
      refine aP rfl rfl ?_
      refine aP rfl rfl ?_
      refine aP rfl rfl ?_
      refine arun_nil ?_
      refine awp_ret (thn_r ?_)
      refine fT (fun o => o) (.tmp _ _ _ _ rfl (.tmp _ _ _ _ rfl (.tmp _ _ _ _ rfl .nil))) ?_ ?_
      · exact rfl
      · exact trivial
  have h1 : ¬ 3000 < s.size ∧ ¬ 59 < N := by simp at h; omega
  clear h
  obtain ⟨h1, h3⟩ := h1
  rw [if_neg h1] at hO
  refine awp_skip (awp_seq ?_)
  refine tx ?_
  refine aP rfl rfl ?_
  refine arun_nil ?_
  refine awp_seq (awp_seq ?_)
  refine tx ?_
  refine mP rfl rfl ?_
  refine r_pure a_seql rfl rfl ?_
  refine arun_nil ?_
  refine thn_n ?_
  refine awp_cond _ rfl (fun h => ?_) (fun h => ?_)
  · have h2 : s = ⟨#[]⟩ := by simpa using h
    rw [if_pos h2] at hO
    subst hO
    refine awp_seq ?_
    refine tx ?_
    refine aP rfl rfl ?_
    refine aP rfl rfl ?_
    refine aP rfl rfl ?_
    refine arun_nil ?_
    refine awp_ret (thn_r ?_)
    refine fT (fun o => o) (.tmp _ _ _ _ rfl (.tmp _ _ _ _ rfl (.tmp _ _ _ _ rfl .nil))) ?_ ?_
    · exact rfl
    · exact trivial
  have h2 : s ≠ ⟨#[]⟩ := by simpa using h
  clear h
  rw [if_neg h2, if_neg h3] at hO
  replace hSp := hSp (by omega)
  refine awp_skip (awp_seq (awp_seq ?_))
  refine tx ?_
  refine mP rfl rfl ?_
  refine r_callV (fun n => 22 + 1000 * n) (hSp) rfl rfl Tryz.func117 rfl rfl (by first | rfl | simp [AV.noSl, AV.noSlL, AObj.noSl, PV.isV, strs]) (by first | rfl | simp [AV.noSl, AV.noSlL, AObj.noSl, PV.isV, strs]) rfl rfl rfl (by first | exact trivial | exact ⟨rfl, trivial⟩ | exact ⟨rfl, rfl, trivial⟩) rfl rfl rfl ?_
  refine r_run (a_lenR Tryz.underlying153) rfl rfl ⟨rfl, trivial⟩ ?_
  refine mP rfl rfl ?_
  refine arun_nil ?_
  refine thn_n (awp_re (re_nil 5 100 111 2 rfl rfl) ?_)
  refine awp_block ?_
  refine awp_loopR (fun m st => ∃ i : Nat, m + i = N + 1 ∧ (∀ q ∈ ps.take i, pcE q = 0) ∧ st = St.of [(5, .row 100), (22, .row 22), (23, .p (.v (.int .i64 (N + 1 : Nat)))), (24, .p (.v (.int .i64 i)))] [(22, .row 9 1 (N + 1) (strs ps)), (100, .row 111 2 i (((ps.take i).map lnOf).flatMap lnC))]) (N + 1) ?_ ?_
  · refine ⟨_, re_of id _ _ ?_ ?_ rfl, 0, by omega, by simp, rfl⟩
    · (repeat (first | exact trivial | (refine ⟨⟨(by first | rfl | (simp; done) | (simp; omega)), rfl⟩, ?_⟩)))
    · exact ⟨⟨rfl, rfl⟩, ⟨rfl, rfl⟩, trivial⟩
  rintro m st ⟨i, hi, hf, rfl⟩
  refine awp_seq ?_
  refine tx ?_
  refine r_pure a_lss rfl rfl ?_
  refine arun_nil ?_
  refine awp_seq ?_
  refine awp_cond _ rfl (fun h => ?_) (fun h => ?_)
  · have hlt : i < ps.length := by simp at h; omega
    clear h
    obtain ⟨p, hp⟩ : ∃ p, ps[i]? = some p := ⟨ps[i], List.getElem?_eq_getElem hlt⟩
    have hat := strs_get hp
    have hpz := hsz p (List.mem_of_getElem? hp)
    have hbad := @badAt_hit p ps i 0 hp hf
    have hok := takeB_ok hp hf
    have hnx := takeB_next hp
    have hIx := index1_s p 61
    have hC := refLFault_s (cutA p 61) (cutZ p 61) (by have := cutA_size p 61; omega) (by have := cutZ_size p 61; omega)
    have hE : pcE p = if 0 ≤ ixB p 61 then lineE (cutA p 61) (cutZ p 61) else 3 := rfl
    have hsl : (strs ps).length = N + 1 := by rw [strs_len, hlen]
    have hA : cutA p 61 = if 0 ≤ ixB p 61 then p.extract 0 (ixB p 61).toNat else p := rfl
    have hZ : cutZ p 61 = if 0 ≤ ixB p 61 then p.extract ((ixB p 61).toNat + 1) p.size else ⟨#[]⟩ := rfl
    have hlx := ixB_lt p 61
    rw [Nat.zero_add] at hbad
    generalize pcE p = pe at *
    generalize lineE (cutA p 61) (cutZ p 61) = e at *
    generalize cutA p 61 = k at *
    generalize cutZ p 61 = v at *
    generalize ixB p 61 = ix at *
    generalize strs ps = SP at *
    change Fn Tryz.prog _ [.agg [.p (.v (.string k)), .p (.v (.string v))]] _ _ at hC
    refine awp_skip (awp_seq (awp_block (awp_seq ?_)))
    refine tx ?_
    refine mP rfl rfl ?_
    refine r_run (a_indexAddrR Tryz.underlying153 sz9 (by omega) (by omega) (show _ = i by omega)) rfl rfl ⟨rfl, trivial⟩ ?_
    refine r_run (a_load1r Tryz.underlying9 rfl hat) rfl rfl ⟨rfl, trivial⟩ ?_
    refine aP rfl rfl ?_
    refine aP rfl rfl ?_
    refine arun_nil ?_
    refine awp_seq ?_
    refine tx ?_
    refine mP rfl rfl ?_
    refine r_callV (fun n => 30 + 1000 * n) (hIx) rfl rfl Tryz.func123 rfl rfl (by first | rfl | simp [AV.noSl, AV.noSlL, AObj.noSl, PV.isV, bs_noSl]) (by first | rfl | simp [AV.noSl, AV.noSlL, AObj.noSl, PV.isV, bs_noSl]) rfl rfl rfl (by first | exact trivial | exact ⟨rfl, trivial⟩ | exact ⟨rfl, rfl, trivial⟩) rfl rfl rfl ?_
    refine aP rfl rfl ?_
    refine arun_nil ?_
    refine awp_seq (awp_seq ?_)
    refine tx ?_
    refine mP rfl rfl ?_
    refine r_pure a_lss rfl rfl ?_
    refine arun_nil ?_
    refine thn_n ?_
    refine awp_cond _ rfl (fun h => ?_) (fun h => ?_)
    · have h4 : ¬ 0 ≤ ix := by simp at h; omega
      rw [if_neg h4] at hE
      rw [hbad (by omega), hE] at hO
      subst hO
      refine awp_seq ?_
      refine tx ?_
      refine mP rfl rfl ?_
      refine r_pure (a_add (by first | exact IntWalk.i64_in _ (by omega) | rfl)) rfl rfl ?_
      refine aP rfl rfl ?_
      refine aP rfl rfl ?_
      refine aP rfl rfl ?_
      refine arun_nil ?_
      refine awp_ret (thn_r (inb_r (thn_r (thn_r (inb_r (thn_r ?_))))))
      refine fT (fun o => o) (.tmp _ _ _ _ rfl (.tmp _ _ _ _ rfl (.tmp _ _ _ _ rfl .nil))) ?_ ?_
      · exact rfl
      · exact trivial
    have h4 : 0 ≤ ix := by simp at h; omega
    clear h
    rw [if_pos h4] at hE hA hZ
    obtain ⟨n, rfl⟩ := Int.eq_ofNat_of_zero_le h4
    rw [Int.toNat_natCast] at hA hZ
    subst hA hZ
    refine awp_skip (awp_seq ?_)
    refine awp_draw 4 (by kernel_rfl) ?_
    refine mP rfl rfl ?_
    refine mP rfl rfl ?_
    refine r_pure (a_sliceStr (L := none) (H := (some (_, _))) Tryz.underlying9 rfl ⟨by omega, (show _ = n by omega)⟩ (by omega) (by omega) rfl) rfl rfl ?_
    refine mP rfl rfl ?_
    refine mP rfl rfl ?_
    refine r_pure (a_add (show _ = ((n + 1 : Nat) : Int) by rw [IntKind.wrap_i64]; omega)) rfl rfl ?_
    refine r_pure (a_sliceStr (L := (some (_, _))) (H := none) Tryz.underlying9 ⟨by omega, (show _ = n + 1 by omega)⟩ rfl (by omega) (by omega) rfl) rfl rfl ?_
    refine r_pure (b_build pl111 zr111 rfl rfl) rfl rfl ?_
    refine r_run (a_alloc 9 zr111 rfl) rfl rfl ⟨rfl, trivial⟩ ?_
    refine r_run (a_storeAll (Y := .agg _) sz111 rfl (by first | exact Nat.eq_of_beq_eq_true rfl | (simp only [AV.cells, List.length_map]; first | assumption | omega)) (Nat.eq_of_beq_eq_true rfl)) rfl rfl ⟨rfl, trivial⟩ ?_
    refine arun_nil ⟨by kernel_rfl, ?_⟩
    refine awp_seq (awp_seq ?_)
    refine tx ?_
    refine lN Tryz.underlying111 rfl sz111 rfl rfl ⟨rfl, trivial⟩ ?_
    refine r_callV (fun n => 44 + 1000 * n) (hC) rfl rfl Tryz.func116 rfl rfl (by first | rfl | simp [AV.noSl, AV.noSlL, AObj.noSl, PV.isV, bs_noSl]) (by first | rfl | simp [AV.noSl, AV.noSlL, AObj.noSl, PV.isV, bs_noSl]) rfl rfl rfl (by first | exact trivial | exact ⟨rfl, trivial⟩ | exact ⟨rfl, rfl, trivial⟩) rfl rfl rfl ?_
    refine aP rfl rfl ?_
    refine arun_nil ?_
    refine awp_seq ?_
    refine tx ?_
    refine mP rfl rfl ?_
    refine r_pure a_neq rfl rfl ?_
    refine arun_nil ?_
    refine thn_n ?_
    refine awp_cond _ rfl (fun h => ?_) (fun h => ?_)
    · have h5 : e ≠ 0 := by simpa using h
      rw [hbad (by omega), hE] at hO
      subst hO
      refine awp_seq ?_
      refine tx ?_
      refine mP rfl rfl ?_
      refine r_pure (a_add (by first | exact IntWalk.i64_in _ (by omega) | rfl)) rfl rfl ?_
      refine mP rfl rfl ?_
      refine aP rfl rfl ?_
      refine aP rfl rfl ?_
      refine aP rfl rfl ?_
      refine arun_nil ?_
      refine awp_ret (thn_r (inb_r (thn_r (thn_r (inb_r (thn_r ?_))))))
      refine fT (fun o => o) (.tmp _ _ _ _ rfl (.tmp _ _ _ _ rfl (.tmp _ _ _ _ rfl .nil))) ?_ ?_
      · exact rfl
      · exact trivial
    have h5 : e = 0 := by simpa using h
    clear h
    refine awp_skip (thn_n ?_)
    refine tx ?_
    refine r_pure (a_move (r := .row _)) rfl rfl ?_
    refine lN Tryz.underlying111 rfl sz111 rfl rfl ⟨rfl, trivial⟩ ?_
    refine r_run (xs := [.agg [.p (.v (.string (p.extract 0 n))), .p (.v (.string (p.extract (n + 1) p.size)))]]) (a_buildSlice (es := [.p (.v (.string (p.extract 0 n))), .p (.v (.string (p.extract (n + 1) p.size)))]) (cs := [.v (.string (p.extract 0 n)), .v (.string (p.extract (n + 1) p.size))]) 52 Tryz.underlying109 sz111 zc111 (Nat.le_of_ble_eq_true rfl) (Nat.le_of_ble_eq_true rfl) rfl (by kernel_rfl) (by kernel_rfl) (by kernel_rfl) (Nat.le_of_ble_eq_true rfl)) (by first | rfl | kernel_rfl) rfl ⟨rfl, trivial⟩ ?_
    refine r_run (a_append 53 Tryz.underlying109 eo111 (src_row) (by simp only [maxLen]; omega) (by omega) (show _ = i + 1 by omega) hnx.symm) rfl rfl ⟨rfl, rfl, rfl, trivial⟩ ?_
    refine r_pure (a_assign (r := .row _)) rfl rfl ?_
    refine arun_nil ?_
    refine inb_n (thn_n ?_)
    refine tx ?_
    refine r_pure (a_add (by first | exact IntWalk.i64_in _ (by omega) | rfl)) rfl rfl ?_
    refine mP rfl rfl ?_
    refine arun_nil ?_
    refine thn_n ?_
    refine ⟨m - 1, by omega, _, re_of (fun o => bif Nat.beq o 22 then 22 else 53) _ _ ?_ ?_ rfl, i + 1, by omega, hok (by omega), rfl⟩
    · (repeat (first | exact trivial | (refine ⟨⟨(by first | rfl | (simp; done) | (simp; omega)), rfl⟩, ?_⟩)))
    · exact ⟨⟨rfl, rfl⟩, ⟨rfl, rfl⟩, trivial⟩
  have hge : i = N + 1 := by simp at h; omega
  clear h
  subst hge
  rw [← hlen, List.take_length] at hf ⊢
  rw [badAt_ok hf] at hO
  subst hO
  rw [show spN (ps.map lnOf) none = [(0, .row 111 2 ps.length ((ps.map lnOf).flatMap lnC))] by simp only [spN, List.length_map]]
  refine awp_exit (awp_seq ?_)
  refine tx ?_
  refine r_pure (a_move (r := .row _)) rfl rfl ?_
  refine r_pure (a_assign (r := .row _)) rfl rfl ?_
  refine aP rfl rfl ?_
  refine aP rfl rfl ?_
  refine arun_nil ?_
  refine awp_ret ?_
  refine fT (fun _ => 100) (.tmp _ _ _ _ rfl (.tmp _ _ _ _ rfl (.tmp _ _ _ _ rfl .nil))) ?_ ?_
  · exact rfl
  · exact ⟨⟨rfl, rfl⟩, trivial⟩
end Go.Proofs.YtgpleldhddpcgaaGreatDoor
