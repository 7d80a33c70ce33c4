/- conf.Copy, conf.Find, the reference's PeerAt, the law's sameConf, over data. -/
import Derived.Test.YtcjnecmgificmaaGreatDoorCf2
import Derived.Test.YtcjnecmgificmaaGreatDoorBt1
import Derived.Test.YtcjnecmgificmaaGreatDoorFz
--%T
namespace Go.Proofs.YtcjnecmgificmaaGreatDoor
open Go.RowKit Go.Sort
set_option linter.unusedVariables false
set_option linter.unusedSimpArgs false
set_option maxRecDepth 100000

theorem nclone_s (l : List NtP) (hn : l.length ≤ 1048576) : Fn Tryz.prog 33 [.p (.sl l.length 2 (l.flatMap ntC))] (.row 0) [(0, .row 55 2 l.length (l.flatMap ntC))] := by
  have hL : (l.flatMap ntC).length = l.length * 2 := chunk_len (f := ntC) (k := 2) (fun _ => rfl) l
  by_cases h0 : l.length = 0
  · obtain rfl : l = [] := List.eq_nil_of_length_eq_zero h0
    show Fn Tryz.prog _ [.p (.sl 0 2 [])] (.row 0) [(0, .row 55 2 0 [])]
    refine fn_intro Tryz.func33 rfl (Nat.le_of_ble_eq_true rfl) fun w0 A => ?_
    refine awp_seq ?_
    refine tx ?_
    refine aP rfl rfl ?_
    refine arun_nil ?_
    refine awp_seq (awp_seq ?_)
    refine tx ?_
    refine mP rfl rfl ?_
    refine r_pure (a_seqX Tryz.underlying22) rfl rfl ?_
    refine arun_nil ?_
    refine thn_n ?_
    refine awp_condX rfl ?_ ?_
    · refine awp_seq ?_
      refine tx ?_
      refine aP rfl rfl ?_
      refine arun_nil ?_
      refine thn_n (awp_re (re_nil 2 100 55 2 rfl rfl) ?_)
      refine awp_ret (thn_r ?_)
      refine fT (fun _ => 100) (.tmp _ _ _ _ rfl .nil) ?_ ?_
      · exact rfl
      · exact ⟨⟨rfl, rfl⟩, trivial⟩
    · refine awp_skip (awp_seq ?_)
      refine tx ?_
      refine r_run (a_buildSlice0 5 Tryz.underlying22 sz55) rfl rfl ⟨rfl, trivial⟩ ?_
      refine mP rfl rfl ?_
      refine r_run (a_append 7 Tryz.underlying22 eo55 (src_sl) (by simp only [maxLen]; omega) (by omega) rfl rfl) rfl rfl ⟨rfl, rfl, trivial⟩ ?_
      refine r_pure (a_assign (r := .row _)) rfl rfl ?_
      refine arun_nil ?_
      refine awp_ret ?_
      refine fT (fun _ => 7) (.tmp _ _ _ _ rfl .nil) ?_ ?_
      · exact rfl
      · exact ⟨⟨rfl, rfl⟩, trivial⟩
  · generalize l.flatMap ntC = L at *
    generalize l.length = n at *
    refine fn_intro Tryz.func33 rfl (Nat.le_of_ble_eq_true rfl) fun w0 A => ?_
    refine awp_seq ?_
    refine tx ?_
    refine aP rfl rfl ?_
    refine arun_nil ?_
    refine awp_seq (awp_seq ?_)
    refine tx ?_
    refine mP rfl rfl ?_
    refine r_pure (a_seqS Tryz.underlying22 (by omega)) rfl rfl ?_
    refine arun_nil ?_
    refine thn_n ?_
    refine awp_cond _ rfl (fun h => ?_) (fun h => ?_)
    · cases h
    · refine awp_skip (awp_seq ?_)
      refine tx ?_
      refine r_run (a_buildSlice0 5 Tryz.underlying22 sz55) rfl rfl ⟨rfl, trivial⟩ ?_
      refine mP rfl rfl ?_
      refine r_run (a_append 7 Tryz.underlying22 eo55 (src_sl) (by simp only [maxLen]; omega) (by omega) (show _ = n by omega) rfl) rfl rfl ⟨rfl, rfl, trivial⟩ ?_
      refine r_pure (a_assign (r := .row _)) rfl rfl ?_
      refine arun_nil ?_
      refine awp_ret ?_
      refine fT (fun _ => 7) (.tmp _ _ _ _ rfl .nil) ?_ ?_
      · exact rfl
      · exact ⟨⟨rfl, rfl⟩, trivial⟩
theorem pe_push (l : List PE) (i : Nat) (p : PE) (h : l[i]? = some p) : (l.take i).flatMap PE.pv ++ p.pv = (l.take (i + 1)).flatMap PE.pv := by
  obtain ⟨h1, h2⟩ := List.getElem?_eq_some_iff.1 h
  rw [List.take_succ_eq_append_getElem h1, h2, List.flatMap_append]
  simp
set_option maxHeartbeats 4000000 in
theorem cfCopy_s (c : CF) (ok : c.OK) : Fn Tryz.prog 14 [.agg c.cells] (.agg [.p (.v (.string c.key)), .p (.v (.int .i64 c.port)), .row 0]) [(0, .row 24 5 c.ps.length (c.ps.flatMap PE.pv))] := by
  obtain ⟨key, port, l⟩ := c
  obtain ⟨hn, ok⟩ := ok
  dsimp only at hn ok
  show Fn Tryz.prog _ [.agg (cfC key port l.length (l.flatMap PE.pv))] (.agg [.p (.v (.string key)), .p (.v (.int .i64 port)), .row 0]) [(0, .row 24 5 l.length (l.flatMap PE.pv))]
  refine fn_intro Tryz.func14 rfl (Nat.le_of_ble_eq_true rfl) fun w0 A => ?_
  refine awp_seq ?_
  refine tx ?_
  refine r_run (a_box (X := .agg _) 1 rfl) rfl rfl ⟨rfl, trivial⟩ ?_
  refine r_run (a_alloc 2 zr27 rfl) rfl rfl ⟨rfl, trivial⟩ ?_
  refine arun_nil ?_
  refine awp_seq ?_
  refine tx ?_
  refine fA fi27_2 rfl rfl ?_
  refine l1 Tryz.underlying25 rfl rfl rfl ⟨rfl, trivial⟩ ?_
  refine r_pure (a_lenS Tryz.underlying25) rfl rfl ?_
  refine r_run (a_make0 9 Tryz.underlying25 eo24 (by omega) (by omega) (by simp only [maxLen]; omega)) rfl rfl ⟨rfl, trivial⟩ ?_
  refine r_pure (a_assign (r := .row _)) rfl rfl ?_
  refine arun_nil ?_
  refine awp_seq (awp_seq ?_)
  refine tx ?_
  refine fA fi27_2 rfl rfl ?_
  refine l1 Tryz.underlying25 rfl rfl rfl ⟨rfl, trivial⟩ ?_
  refine r_pure (a_lenS Tryz.underlying25) rfl rfl ?_
  refine mP rfl rfl ?_
  refine arun_nil ?_
  refine awp_block ?_
  refine awp_loopR (fun m st => ∃ i : Nat, m + i = l.length ∧ st = St.of [(1, .ref 1 0), (2, .ref 2 0), (3, .row 100), (11, .p (.sl l.length 5 (l.flatMap PE.pv))), (12, .p (.v (.int .i64 l.length))), (13, .p (.v (.int .i64 i)))] [(1, .box 27 (cfC key port l.length (l.flatMap PE.pv))), (2, .box 27 [.p (.v (.string ⟨#[]⟩)), .p (.v (.int .i64 0)), .p (.v (.slice none 0 0))]), (100, .row 24 5 i ((l.take i).flatMap PE.pv))]) l.length ?_ ?_
  · refine ⟨_, re_of (fun o => bif Nat.beq o 100 then 9 else o) _ _ ?_ ?_ rfl, 0, by omega, rfl⟩
    · (repeat (first | exact trivial | (refine ⟨⟨(by first | rfl | (simp; done) | (simp; omega)), rfl⟩, ?_⟩)))
    · exact ⟨⟨rfl, rfl⟩, ⟨rfl, rfl⟩, ⟨rfl, rfl⟩, trivial⟩
  rintro m st ⟨i, hi, rfl⟩
  refine awp_seq ?_
  refine tx ?_
  refine r_pure a_lss rfl rfl ?_
  refine arun_nil ?_
  refine awp_seq ?_
  refine awp_cond _ rfl (fun h => ?_) (fun h => ?_)
  · have hlt : i < l.length := by simp at h; omega
    clear h
    obtain ⟨p, hp⟩ : ∃ p, l[i]? = some p := ⟨l[i], List.getElem?_eq_getElem hlt⟩
    have hch := chunk_at (f := PE.pv) (k := 5) (fun _ => rfl) hp
    have hle := chunk_le (f := PE.pv) (k := 5) (fun _ => rfl) hlt
    have hpl := (ok p (List.mem_of_getElem? hp)).2
    have hC := nclone_s p.nets hpl
    have hpush := pe_push l i p hp
    have hil : ((l.take i).flatMap PE.pv).length = i * 5 := by rw [chunk_len (k := 5) (fun _ => rfl), List.length_take, Nat.min_eq_left (by omega)]
    generalize hL : l.flatMap PE.pv = L at *
    generalize (l.take i).flatMap PE.pv = T at *
    obtain ⟨pk, sh, ep, al, nn⟩ := p
    dsimp only at hC hpl
    refine awp_skip (awp_seq (awp_block (awp_seq ?_)))
    refine tx ?_
    refine r_pure (a_indexAddrS Tryz.underlying25 sz24 (by omega) (by omega) rfl) rfl rfl ?_
    refine r_pure (a_loadNp Tryz.underlying24 rfl sz24 (by first | omega | (simp; done) | (simp; omega)) (hch)) rfl rfl ?_
    refine r_run (a_alloc 5 zr24 rfl) rfl rfl ⟨rfl, trivial⟩ ?_
    refine r_run (a_storeAll (Y := .agg [.p (.v (.string pk)), .p (.v (.string sh)), .p (.v (.string ep)), .p (.v (.int .i64 al)), .p (.sl nn.length 2 (nn.flatMap ntC))]) sz24 rfl rfl (Nat.eq_of_beq_eq_true rfl)) rfl rfl ⟨rfl, trivial⟩ ?_
    refine arun_nil ?_
    refine awp_seq ?_
    refine tx ?_
    refine fA fi24_4 rfl rfl ?_
    refine l1 Tryz.underlying22 rfl rfl rfl ⟨rfl, trivial⟩ ?_
    refine r_callS (fun _ => 19) (hC) rfl rfl Tryz.func33 rfl rfl (by first | rfl | simp [AV.okInL, AV.okIn, okInL_map]) rfl rfl rfl (by first | exact trivial | exact ⟨rfl, trivial⟩ | exact ⟨rfl, rfl, trivial⟩) rfl rfl rfl ?_
    refine fA fi24_4 rfl rfl ?_
    refine r_run (a_store (Y := .row _) sz22 rfl (by first | exact Nat.eq_of_beq_eq_true rfl | (simp only [AV.cells, List.length_map]; first | assumption | omega)) (by first | exact Nat.le_of_ble_eq_true rfl | omega | (simp only [AV.cells, List.length_map]; omega)) (by first | (simp only [setR, AV.cells, List.take_succ_cons, List.take_zero, List.drop_succ_cons, List.drop_zero, List.drop_nil, List.take_nil, List.nil_append, List.cons_append, List.append_nil, List.length_cons, List.length_nil, Nat.reduceAdd, Nat.zero_add, Nat.add_zero]; rfl) | rfl)) rfl rfl ⟨rfl, trivial⟩ ?_
    refine arun_nil ?_
    refine thn_reO (reo_fzR (cs := nn.flatMap ntC) 19 rfl) ?_
    skip
    refine tx ?_
    refine r_pure (a_move (r := .row _)) rfl rfl ?_
    refine lN Tryz.underlying24 rfl sz24 rfl rfl ⟨rfl, trivial⟩ ?_
    refine r_run (a_buildSlice 23 Tryz.underlying25 sz24 zc24 (Nat.le_of_ble_eq_true rfl) (Nat.le_of_ble_eq_true rfl) rfl rfl rfl rfl (Nat.le_of_ble_eq_true rfl)) rfl rfl ⟨rfl, trivial⟩ ?_
    refine r_run (a_append 24 Tryz.underlying25 eo24 (src_row) (by simp only [maxLen]; omega) (by omega) rfl rfl) rfl rfl ⟨rfl, rfl, rfl, trivial⟩ ?_
    refine r_pure (a_assign (r := .row _)) rfl rfl ?_
    refine arun_nil ?_
    refine inb_n (thn_n ?_)
    refine tx ?_
    refine r_pure (a_add (by first | exact IntWalk.i64_in _ (by omega) | rfl)) rfl rfl ?_
    refine mP rfl rfl ?_
    refine arun_nil ?_
    refine thn_n ?_
    refine ⟨m - 1, by omega, _, re_of (fun o => bif Nat.beq o 100 then 24 else o) _ _ ?_ ?_ rfl, i + 1, by omega, rfl⟩
    · (repeat (first | exact trivial | (refine ⟨⟨(by first | rfl | (simp; done) | (simp; omega)), rfl⟩, ?_⟩)))
    · exact ⟨⟨rfl, rfl⟩, ⟨rfl, rfl⟩, ⟨by rw [← hpush]; rfl, rfl⟩, trivial⟩
  have hge : i = l.length := by simp at h; omega
  clear h
  subst hge
  rw [List.take_length]
  refine awp_exit (awp_seq ?_)
  refine tx ?_
  refine r_pure (a_move (r := .row _)) rfl rfl ?_
  refine fA fi27_2 rfl rfl ?_
  refine r_run (a_store (Y := .row _) sz25 rfl (by first | exact Nat.eq_of_beq_eq_true rfl | (simp only [AV.cells, List.length_map]; first | assumption | omega)) (by first | exact Nat.le_of_ble_eq_true rfl | omega | (simp only [AV.cells, List.length_map]; omega)) (by first | (simp only [setR, AV.cells, List.take_succ_cons, List.take_zero, List.drop_succ_cons, List.drop_zero, List.drop_nil, List.take_nil, List.nil_append, List.cons_append, List.append_nil, List.length_cons, List.length_nil, Nat.reduceAdd, Nat.zero_add, Nat.add_zero]; rfl) | rfl)) rfl rfl ⟨rfl, trivial⟩ ?_
  refine arun_nil ?_
  refine awp_seq ?_
  refine tx ?_
  refine lN Tryz.underlying27 rfl sz27 rfl rfl ⟨rfl, trivial⟩ ?_
  refine r_run (a_storeAll (Y := .agg _) sz27 rfl (by first | exact Nat.eq_of_beq_eq_true rfl | (simp only [AV.cells, List.length_map]; first | assumption | omega)) (Nat.eq_of_beq_eq_true rfl)) rfl rfl ⟨rfl, trivial⟩ ?_
  refine arun_nil ?_
  refine awp_ret ?_
  refine fT (fun _ => 100) (.cellN _ _ _ _ _ _ _ _ _ rfl rfl Tryz.underlying27 rfl sz27 (by first | assumption | kernel_rfl) .nil) ?_ ?_
  · exact rfl
  · exact ⟨⟨rfl, rfl⟩, trivial⟩

/-! where a peer stands -/
def peN (k : ByteArray) : List PE → Nat
  | [] => 0
  | p :: l => if p.key = k then 0 else peN k l + 1
theorem peN_le (k : ByteArray) : ∀ l : List PE, peN k l ≤ l.length
  | [] => Nat.le_refl _
  | p :: l => by
    have := peN_le k l
    unfold peN
    split
    · omega
    · rw [List.length_cons]; omega
theorem peN_at {k : ByteArray} : ∀ {l : List PE} {i : Nat}, (hi : i < l.length) → l[i].key = k → (∀ j, (hj : j < i) → l[j].key ≠ k) → peN k l = i
  | p :: l, 0, _, h, _ => by
    have : p.key = k := by simpa using h
    simp [peN, this]
  | p :: l, i + 1, hi, h, hb => by
    have h0 : p.key ≠ k := by simpa using hb 0 (by omega)
    have ih := peN_at (l := l) (i := i) (by simpa using hi) (by simpa using h) (fun j hj => by simpa using hb (j + 1) (by omega))
    simp [peN, h0, ih]
theorem peN_none {k : ByteArray} : ∀ {l : List PE}, (∀ j, (hj : j < l.length) → l[j].key ≠ k) → peN k l = l.length
  | [], _ => rfl
  | p :: l, hb => by
    have h0 : p.key ≠ k := hb 0 (by simp)
    have ih := peN_none (k := k) (l := l) (fun j hj => hb (j + 1) (by simpa using hj))
    simp [peN, h0, ih]
theorem find1_s (p : PE) (k : ByteArray) : Fn Tryz.prog 32 [.agg p.cells, .ptr [.v (.string k)]] (.p (.v (.bool (decide (p.key = k))))) [] := by
  obtain ⟨pk, sh, ep, al, nn⟩ := p
  show Fn Tryz.prog _ [.agg [.p (.v (.string pk)), .p (.v (.string sh)), .p (.v (.string ep)), .p (.v (.int .i64 al)), .p (.sl nn.length 2 (nn.flatMap ntC))], .ptr [.v (.string k)]] (.p (.v (.bool (decide (pk = k))))) _
  refine fn_intro Tryz.func32 rfl (Nat.le_of_ble_eq_true rfl) fun w0 A => ?_
  refine awp_seq ?_
  refine tx ?_
  refine r_run (a_box (X := .agg _) 2 rfl) rfl rfl ⟨rfl, trivial⟩ ?_
  refine aP rfl rfl ?_
  refine arun_nil ?_
  refine awp_seq ?_
  refine tx ?_
  refine fA fi24_0 rfl rfl ?_
  refine l1 Tryz.underlying9 rfl rfl rfl ⟨rfl, trivial⟩ ?_
  refine r_pure (a_load1p Tryz.underlying9 rfl (by first | rfl | assumption | ((try simp only [List.getElem?_drop, List.getElem?_take, Int.toNat_natCast, Nat.mul_one, Nat.add_zero, Nat.zero_add]); first | assumption | rfl))) rfl rfl ?_
  refine r_pure a_seql rfl rfl ?_
  refine aP rfl rfl ?_
  refine arun_nil ?_
  refine awp_ret ?_
  refine fT (fun o => o) (.tmp _ _ _ _ rfl .nil) ?_ ?_
  · exact rfl
  · exact trivial
def peI (k : ByteArray) (l : List PE) : Int := if peN k l < l.length then peN k l else -1
theorem indexF_s (l : List PE) (k : ByteArray) (hn : l.length ≤ 1048576) : Fn Tryz.prog 31 [.p (.sl l.length 5 (l.flatMap PE.pv)), .fn 32 [.ptr [.v (.string k)]]] (.p (.v (.int .i64 (peI k l)))) [] := by
  refine fn_intro Tryz.func31 rfl (Nat.le_of_ble_eq_true rfl) fun w0 A => ?_
  refine awp_seq ?_
  refine tx ?_
  refine aP rfl rfl ?_
  refine arun_nil ?_
  refine awp_seq (awp_seq ?_)
  refine tx ?_
  refine mP rfl rfl ?_
  refine r_pure (a_lenS Tryz.underlying25) rfl rfl ?_
  refine mP rfl rfl ?_
  refine arun_nil ?_
  refine awp_block ?_
  refine awp_loopR (fun m st => ∃ i : Nat, m + i = l.length ∧ (∀ j, (hj : j < i) → (hj2 : j < l.length) → l[j].key ≠ k) ∧ st = St.of [(0, .p (.sl l.length 5 (l.flatMap PE.pv))), (1, .fn 32 [.ptr [.v (.string k)]]), (7, .p (.v (.int .i64 l.length))), (8, .p (.v (.int .i64 i)))] []) l.length ?_ ?_
  · refine ⟨_, re_of id _ _ ?_ ?_ rfl, 0, by omega, fun j hj => by omega, rfl⟩
    · (repeat (first | exact trivial | (refine ⟨⟨(by first | rfl | (simp; done) | (simp; omega)), rfl⟩, ?_⟩)))
    · exact trivial
  rintro m st ⟨i, hi, hb, rfl⟩
  refine awp_seq ?_
  refine tx ?_
  refine r_pure a_lss rfl rfl ?_
  refine arun_nil ?_
  refine awp_seq ?_
  refine awp_cond _ rfl (fun h => ?_) (fun h => ?_)
  · have hlt : i < l.length := by simp at h; omega
    clear h
    have hq : l[i]? = some (l[i]'(by omega)) := List.getElem?_eq_getElem (by omega)
    have hch := chunk_at (f := PE.pv) (k := 5) (fun _ => rfl) hq
    have hle := chunk_le (f := PE.pv) (k := 5) (fun _ => rfl) hlt
    have hat := @peN_at k l i hlt
    have hstep : (l[i]'(by omega)).key ≠ k → ∀ j, (hj : j < i + 1) → (hj2 : j < l.length) → l[j].key ≠ k := fun hne j hj hj2 => by
      by_cases e : j = i
      · subst e; exact hne
      · exact hb j (by omega) hj2
    have hb' : ∀ j, (hj : j < i) → (l[j]'(by omega)).key ≠ k := fun j hj => hb j hj (by omega)
    have hC := find1_s (l[i]'(by omega)) k
    generalize hx : (l[i]'(by omega)) = p at *
    generalize l.flatMap PE.pv = L at *
    refine awp_skip (awp_seq (awp_block (awp_seq ?_)))
    refine tx ?_
    refine mP rfl rfl ?_
    refine aP rfl rfl ?_
    refine arun_nil ?_
    by_cases hc : p.key = k
    · have hI : peI k l = i := by unfold peI; rw [hat hc hb', if_pos hlt]
      rw [hI]
      rw [decide_eq_true hc] at hC
      refine awp_seq ?_
      refine tx ?_
      refine r_pure (a_move (r := .fn _ _)) rfl rfl ?_
      refine mP rfl rfl ?_
      refine mP rfl rfl ?_
      refine r_pure (a_indexAddrS Tryz.underlying25 sz24 (by omega) (by omega) rfl) rfl rfl ?_
      refine r_pure (a_loadNp Tryz.underlying24 rfl sz24 (by first | omega | (simp; done) | (simp; omega)) (hch)) rfl rfl ?_
      refine r_callS (fun n => 16 + 1000 * n) (hC) rfl rfl Tryz.func32 rfl rfl (by first | rfl | simp [AV.okInL, AV.okIn, okInL_map]) rfl rfl rfl (by first | exact trivial | exact ⟨rfl, trivial⟩ | exact ⟨rfl, rfl, trivial⟩) rfl rfl rfl ?_
      refine arun_nil ?_
      refine thn_n ?_
      refine awp_cT rfl ?_
      refine awp_seq ?_
      refine tx ?_
      refine mP rfl rfl ?_
      refine aP rfl rfl ?_
      refine arun_nil ?_
      refine awp_ret (inb_r (thn_r (thn_r (inb_r (thn_r ?_)))))
      refine fT (fun o => o) (.tmp _ _ _ _ rfl .nil) ?_ ?_
      · exact rfl
      · exact trivial
    · rw [decide_eq_false hc] at hC
      refine awp_seq ?_
      refine tx ?_
      refine r_pure (a_move (r := .fn _ _)) rfl rfl ?_
      refine mP rfl rfl ?_
      refine mP rfl rfl ?_
      refine r_pure (a_indexAddrS Tryz.underlying25 sz24 (by omega) (by omega) rfl) rfl rfl ?_
      refine r_pure (a_loadNp Tryz.underlying24 rfl sz24 (by first | omega | (simp; done) | (simp; omega)) (hch)) rfl rfl ?_
      refine r_callS (fun n => 16 + 1000 * n) (hC) rfl rfl Tryz.func32 rfl rfl (by first | rfl | simp [AV.okInL, AV.okIn, okInL_map]) rfl rfl rfl (by first | exact trivial | exact ⟨rfl, trivial⟩ | exact ⟨rfl, rfl, trivial⟩) rfl rfl rfl ?_
      refine arun_nil ?_
      refine thn_n ?_
      refine awp_cF rfl ?_
      refine awp_skip (inb_n (thn_n ?_))
      refine tx ?_
      refine r_pure (a_add (by first | exact IntWalk.i64_in _ (by omega) | rfl)) rfl rfl ?_
      refine mP rfl rfl ?_
      refine arun_nil ?_
      refine thn_n ?_
      refine ⟨m - 1, by omega, _, re_of id _ _ ?_ ?_ rfl, i + 1, by omega, hstep hc, rfl⟩
      · (repeat (first | exact trivial | (refine ⟨⟨(by first | rfl | (simp; done) | (simp; omega)), rfl⟩, ?_⟩)))
      · exact trivial
  have hge : i = l.length := by simp at h; omega
  clear h
  have hI : peI k l = -1 := by unfold peI; rw [peN_none fun j hj => hb j (by omega) hj, if_neg (by omega)]
  rw [hI]
  refine awp_exit (awp_seq ?_)
  refine tx ?_
  refine aP rfl rfl ?_
  refine arun_nil ?_
  refine awp_ret ?_
  refine fT (fun o => o) (.tmp _ _ _ _ rfl .nil) ?_ ?_
  · exact rfl
  · exact trivial
theorem find_s (c : CF) (ok : c.OK) (k : ByteArray) : Fn Tryz.prog 13 [.agg c.cells, .p (.v (.string k))] (if peN k c.ps < c.ps.length then .tup [.p (.v (.int .i64 (peN k c.ps : Nat))), .p (.v (.int .i64 0))] else .tup [.p (.v (.int .i64 0)), .p (.v (.int .i64 5))]) [] := by
  obtain ⟨key, port, l⟩ := c
  have hI := indexF_s l k ok.len
  show Fn Tryz.prog _ [.agg (cfC key port l.length (l.flatMap PE.pv)), _] (if peN k l < l.length then .tup [.p (.v (.int .i64 (peN k l : Nat))), .p (.v (.int .i64 0))] else .tup [.p (.v (.int .i64 0)), .p (.v (.int .i64 5))]) _
  obtain ⟨R, hR⟩ : ∃ R, (if peN k l < l.length then AV.tup [.p (.v (.int .i64 (peN k l : Nat))), .p (.v (.int .i64 0))] else .tup [.p (.v (.int .i64 0)), .p (.v (.int .i64 5))]) = R := ⟨_, rfl⟩
  rw [hR]
  unfold peI at hI
  generalize l.flatMap PE.pv = L at *
  refine fn_intro Tryz.func13 rfl (Nat.le_of_ble_eq_true rfl) fun w0 A => ?_
  refine awp_seq ?_
  refine tx ?_
  refine r_run (a_box (X := .agg _) 2 rfl) rfl rfl ⟨rfl, trivial⟩ ?_
  refine r_run (a_box (X := .p _) 3 rfl) rfl rfl ⟨rfl, trivial⟩ ?_
  refine aP rfl rfl ?_
  refine aP rfl rfl ?_
  refine arun_nil ?_
  refine thn_reO (reo_fzV (cs := [.v (.string k)]) 3 rfl rfl) ?_
  by_cases hc : peN k l < l.length
  · rw [if_pos hc] at hI hR
    subst hR
    generalize peN k l = n at *
    refine awp_seq ?_
    refine tx ?_
    refine fA fi27_2 rfl rfl ?_
    refine l1 Tryz.underlying25 rfl rfl rfl ⟨rfl, trivial⟩ ?_
    refine r_pure a_makeFunc rfl rfl ?_
    refine r_callS (fun n => 10 + 1000 * n) (hI) rfl rfl Tryz.func31 rfl rfl (by first | rfl | simp [AV.okInL, AV.okIn, okInL_map]) rfl rfl rfl (by first | exact trivial | exact ⟨rfl, trivial⟩ | exact ⟨rfl, rfl, trivial⟩) rfl rfl rfl ?_
    refine aP rfl rfl ?_
    refine arun_nil ?_
    refine awp_seq (awp_seq ?_)
    refine tx ?_
    refine mP rfl rfl ?_
    refine r_pure a_lss rfl rfl ?_
    refine arun_nil ?_
    refine thn_n ?_
    refine awp_cond _ rfl (fun h => ?_) (fun h => ?_)
    · simp at h; omega
    refine awp_skip (awp_seq ?_)
    refine tx ?_
    refine mP rfl rfl ?_
    refine aP rfl rfl ?_
    refine aP rfl rfl ?_
    refine arun_nil ?_
    refine awp_ret ?_
    refine fT (fun o => o) (.tmp _ _ _ _ rfl (.tmp _ _ _ _ rfl .nil)) ?_ ?_
    · exact rfl
    · exact trivial
  · rw [if_neg hc] at hI hR
    subst hR
    refine awp_seq ?_
    refine tx ?_
    refine fA fi27_2 rfl rfl ?_
    refine l1 Tryz.underlying25 rfl rfl rfl ⟨rfl, trivial⟩ ?_
    refine r_pure a_makeFunc rfl rfl ?_
    refine r_callS (fun n => 10 + 1000 * n) (hI) rfl rfl Tryz.func31 rfl rfl (by first | rfl | simp [AV.okInL, AV.okIn, okInL_map]) rfl rfl rfl (by first | exact trivial | exact ⟨rfl, trivial⟩ | exact ⟨rfl, rfl, trivial⟩) rfl rfl rfl ?_
    refine aP rfl rfl ?_
    refine arun_nil ?_
    refine awp_seq (awp_seq ?_)
    refine tx ?_
    refine mP rfl rfl ?_
    refine r_pure a_lss rfl rfl ?_
    refine arun_nil ?_
    refine thn_n ?_
    refine awp_cond _ rfl (fun h => ?_) (fun h => ?_)
    · refine awp_seq ?_
      refine tx ?_
      refine aP rfl rfl ?_
      refine aP rfl rfl ?_
      refine arun_nil ?_
      refine awp_ret (thn_r ?_)
      refine fT (fun o => o) (.tmp _ _ _ _ rfl (.tmp _ _ _ _ rfl .nil)) ?_ ?_
      · exact rfl
      · exact trivial
    · cases h
theorem peerAt_s (c : CF) (ok : c.OK) (k : ByteArray) : Fn Tryz.prog 16 [.agg c.cells, .p (.v (.string k))] (.p (.v (.int .i64 (peN k c.ps : Nat)))) [] := by
  obtain ⟨key, port, l⟩ := c
  have hn := ok.len
  dsimp only at hn
  show Fn Tryz.prog _ [.agg (cfC key port l.length (l.flatMap PE.pv)), _] (.p (.v (.int .i64 (peN k l : Nat)))) _
  refine fn_intro Tryz.func16 rfl (Nat.le_of_ble_eq_true rfl) fun w0 A => ?_
  refine awp_seq ?_
  refine tx ?_
  refine r_run (a_box (X := .agg _) 2 rfl) rfl rfl ⟨rfl, trivial⟩ ?_
  refine aP rfl rfl ?_
  refine arun_nil ?_
  refine awp_seq ?_
  refine tx ?_
  refine aP rfl rfl ?_
  refine arun_nil ?_
  refine awp_seq (awp_block ?_)
  refine awp_loopR (fun m st => ∃ i : Nat, m + i = l.length ∧ (∀ j, (hj : j < i) → (hj2 : j < l.length) → l[j].key ≠ k) ∧ st = St.of [(1, .p (.v (.string k))), (2, .ref 2 0), (5, .p (.v (.int .i64 i)))] [(2, .box 27 (cfC key port l.length (l.flatMap PE.pv)))]) l.length ?_ ?_
  · refine ⟨_, re_of id _ _ ?_ ?_ rfl, 0, by omega, fun j hj => by omega, rfl⟩
    · (repeat (first | exact trivial | (refine ⟨⟨(by first | rfl | (simp; done) | (simp; omega)), rfl⟩, ?_⟩)))
    · exact ⟨⟨rfl, rfl⟩, trivial⟩
  rintro m st ⟨i, hi, hb, rfl⟩
  by_cases hlt : i < l.length
  · have hq : l[i]? = some (l[i]'(by omega)) := List.getElem?_eq_getElem (by omega)
    have hch := chunk_at (f := PE.pv) (k := 5) (fun _ => rfl) hq
    have hle := chunk_le (f := PE.pv) (k := 5) (fun _ => rfl) hlt
    have hat := @peN_at k l i hlt
    have hstep : (l[i]'(by omega)).key ≠ k → ∀ j, (hj : j < i + 1) → (hj2 : j < l.length) → l[j].key ≠ k := fun hne j hj hj2 => by
      by_cases e : j = i
      · subst e; exact hne
      · exact hb j (by omega) hj2
    have hb' : ∀ j, (hj : j < i) → (l[j]'(by omega)).key ≠ k := fun j hj => hb j hj (by omega)
    generalize hx : (l[i]'(by omega)) = p at *
    have hpk : ((l.flatMap PE.pv).drop (i * 5))[0]? = some (.v (.string p.key)) := by
      have := congrArg (fun x => x[0]?) hch
      rw [List.getElem?_take] at this
      simpa [PE.pv] using this
    generalize l.flatMap PE.pv = L at *
    generalize p.key = pk at *
    by_cases hc : pk = k
    · rw [hat hc hb']
      refine awp_seq (awp_seq ?_)
      refine tx ?_
      refine mP rfl rfl ?_
      refine fA fi27_2 rfl rfl ?_
      refine l1 Tryz.underlying25 rfl rfl rfl ⟨rfl, trivial⟩ ?_
      refine r_pure (a_lenS Tryz.underlying25) rfl rfl ?_
      refine r_pure (a_lssV (c := true) (by simp; omega)) rfl rfl ?_
      refine mP rfl rfl ?_
      refine fA fi27_2 rfl rfl ?_
      refine l1 Tryz.underlying25 rfl rfl rfl ⟨rfl, trivial⟩ ?_
      refine mP rfl rfl ?_
      refine r_pure (a_indexAddrS Tryz.underlying25 sz24 (by omega) (by omega) rfl) rfl rfl ?_
      refine r_pure (b_fieldAddrP fi24_0 rfl) rfl rfl ?_
      refine r_pure (a_load1p Tryz.underlying9 rfl hpk) rfl rfl ?_
      refine mP rfl rfl ?_
      refine r_pure (a_sneqV (c := false) (by simp [hc])) rfl rfl ?_
      refine r_pure a_pickT rfl rfl ?_
      refine arun_nil ?_
      refine thn_n ?_
      refine awp_cF rfl ?_
      refine awp_exit (awp_seq ?_)
      refine tx ?_
      refine mP rfl rfl ?_
      refine aP rfl rfl ?_
      refine arun_nil ?_
      refine awp_ret ?_
      refine fT (fun o => o) (.tmp _ _ _ _ rfl .nil) ?_ ?_
      · exact rfl
      · exact trivial
    · refine awp_seq (awp_seq ?_)
      refine tx ?_
      refine mP rfl rfl ?_
      refine fA fi27_2 rfl rfl ?_
      refine l1 Tryz.underlying25 rfl rfl rfl ⟨rfl, trivial⟩ ?_
      refine r_pure (a_lenS Tryz.underlying25) rfl rfl ?_
      refine r_pure (a_lssV (c := true) (by simp; omega)) rfl rfl ?_
      refine mP rfl rfl ?_
      refine fA fi27_2 rfl rfl ?_
      refine l1 Tryz.underlying25 rfl rfl rfl ⟨rfl, trivial⟩ ?_
      refine mP rfl rfl ?_
      refine r_pure (a_indexAddrS Tryz.underlying25 sz24 (by omega) (by omega) rfl) rfl rfl ?_
      refine r_pure (b_fieldAddrP fi24_0 rfl) rfl rfl ?_
      refine r_pure (a_load1p Tryz.underlying9 rfl hpk) rfl rfl ?_
      refine mP rfl rfl ?_
      refine r_pure (a_sneqV (c := true) (by simp [hc])) rfl rfl ?_
      refine r_pure a_pickT rfl rfl ?_
      refine arun_nil ?_
      refine thn_n ?_
      refine awp_cT rfl ?_
      refine awp_skip (awp_block ?_)
      refine tx ?_
      refine mP rfl rfl ?_
      refine r_pure (a_add (by first | exact IntWalk.i64_in _ (by omega) | rfl)) rfl rfl ?_
      refine aP rfl rfl ?_
      refine arun_nil ?_
      refine inb_n (thn_n ?_)
      refine ⟨m - 1, by omega, _, re_of id _ _ ?_ ?_ rfl, i + 1, by omega, hstep hc, rfl⟩
      · (repeat (first | exact trivial | (refine ⟨⟨(by first | rfl | (simp; done) | (simp; omega)), rfl⟩, ?_⟩)))
      · exact ⟨⟨rfl, rfl⟩, trivial⟩
  · have hge : i = l.length := by omega
    rw [peN_none fun j hj => hb j (by omega) hj]
    subst hge
    refine awp_seq (awp_seq ?_)
    refine tx ?_
    refine mP rfl rfl ?_
    refine fA fi27_2 rfl rfl ?_
    refine l1 Tryz.underlying25 rfl rfl rfl ⟨rfl, trivial⟩ ?_
    refine r_pure (a_lenS Tryz.underlying25) rfl rfl ?_
    refine r_pure (a_lssV (c := false) (by simp)) rfl rfl ?_
    refine mP rfl rfl ?_
    refine r_skipG rfl ?_
    refine r_skipG rfl ?_
    refine r_skipG rfl ?_
    refine r_skipG rfl ?_
    refine r_skipG rfl ?_
    refine r_skipG rfl ?_
    refine r_skipG rfl ?_
    refine r_skipG rfl ?_
    refine r_pure a_pickF rfl rfl ?_
    refine arun_nil ?_
    refine thn_n ?_
    refine awp_cF rfl ?_
    refine awp_exit (awp_seq ?_)
    refine tx ?_
    refine mP rfl rfl ?_
    refine aP rfl rfl ?_
    refine arun_nil ?_
    refine awp_ret ?_
    refine fT (fun o => o) (.tmp _ _ _ _ rfl .nil) ?_ ?_
    · exact rfl
    · exact trivial
end Go.Proofs.YtcjnecmgificmaaGreatDoor
