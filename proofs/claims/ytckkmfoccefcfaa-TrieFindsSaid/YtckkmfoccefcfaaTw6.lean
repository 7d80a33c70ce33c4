/- trie: strip, Drop, DropOwner, Get, Find, All. -/
import Derived.Test.YtckkmfoccefcfaaTw5
import Derived.Test.YtckkmfoccefcfaaTr6
--%T
namespace Go.Proofs.Ytckkmfoccefcfaa
open Go.RowKit Go.Sort
set_option linter.unusedVariables false
set_option linter.unusedSimpArgs false
set_option maxRecDepth 100000

def ndP (p : Key) (o : ByteArray) (l r : TR) : PV := .pt [.v (.int .u32 (addrK p)), .v (.int .i64 p.length), .v (.string o), trP l, trP r]
set_option maxHeartbeats 4000000 in
theorem strip_s {gf : FuncId} {fn : Func} {C : List AV} (is : Key → Own → Bool) (hf : Try.prog.funcs[gf]? = some fn) (hb : fn.body.isNone = false) (hnm : (fn.name == "runtime.NumGoroutine") = false) (hC : AV.okInL [] C = true)
    (hg : ∀ p o l r, p.length ≤ 32 → Fn Try.prog gf (.p (ndP p o l r) :: C) (.p (.v (.bool (is p o)))) []) : ∀ (t : TR), t.short → Fn Try.prog 56 [.p (trP t), .fn gf C] (.p (trP (t.strip is))) []
  | .nil, _ => by
    show Fn Try.prog 56 [.p (.v (.pointer none)), .fn gf C] (.p (.v (.pointer none))) []
    refine fn_intro Try.func56 rfl (Nat.le_of_ble_eq_true rfl) fun w0 A => ?_
    refine awp_seq ?_
    refine awp_text (by kernel_rfl) ?_
    (refine r_pure (a_assign (r := .p _)) rfl rfl ?_)
    refine arun_nil ?_
    refine awp_seq (awp_seq ?_)
    refine awp_text (by kernel_rfl) ?_
    (refine r_pure (a_move (r := .p _)) rfl rfl ?_)
    (refine r_pure (a_peqNN Try.underlying74) rfl rfl ?_)
    refine arun_nil ?_
    refine thn_n ?_
    refine awp_cond _ rfl (fun h => ?_) (fun h => ?_)
    · refine awp_seq ?_
      refine awp_text (by kernel_rfl) ?_
      (refine r_pure (a_assign (r := .p _)) rfl rfl ?_)
      refine arun_nil ?_
      refine awp_ret (thn_r ?_)
      refine ⟨(by first | exact .inl rfl | exact .inr rfl), _, (fun o => o), (.tmp _ _ _ _ rfl .nil), ?_, rfl, ?_, rfl⟩
      · exact rfl
      · exact trivial
    · cases h
  | .nd p o l r, hs => by
    have hl := strip_s is hf hb hnm hC hg l hs.2.1
    have hr := strip_s is hf hb hnm hC hg r hs.2.2
    have hc := hg p o l r hs.1
    rw [TR.strip]
    show Fn Try.prog 56 [.p (.pt [.v (.int .u32 (addrK p)), .v (.int .i64 p.length), .v (.string o), trP l, trP r]), .fn gf C] _ []
    unfold ndP at hc
    generalize l.strip is = l' at *
    generalize r.strip is = r' at *
    generalize is p o = b at *
    refine fn_intro Try.func56 rfl (Nat.le_of_ble_eq_true rfl) fun w0 A => ?_
    refine awp_seq ?_
    refine awp_text (by kernel_rfl) ?_
    (refine r_pure (a_assign (r := .p _)) rfl rfl ?_)
    refine arun_nil ?_
    refine awp_seq (awp_seq ?_)
    refine awp_text (by kernel_rfl) ?_
    (refine r_pure (a_move (r := .p _)) rfl rfl ?_)
    (refine r_pure (a_peqPN Try.underlying74) rfl rfl ?_)
    refine arun_nil ?_
    refine thn_n ?_
    refine awp_cond _ rfl (fun h => ?_) (fun h => ?_)
    · cases h
    refine awp_skip (awp_seq ?_)
    refine awp_draw 12 (by kernel_rfl) ?_
    (refine r_pure (a_move (r := .p _)) rfl rfl ?_)
    (refine r_pure a_nilPt rfl rfl ?_)
    (refine r_pure (b_fieldAddrP fi82_0 rfl) rfl rfl ?_)
    (refine r_pure (a_loadNp Try.underlying36 rfl sz36 (by first | omega | (simp; done) | (simp; omega)) (rfl)) rfl rfl ?_)
    (refine r_pure (a_move (r := .p _)) rfl rfl ?_)
    (refine r_pure a_nilPt rfl rfl ?_)
    (refine r_pure (b_fieldAddrP fi82_1 rfl) rfl rfl ?_)
    (refine r_pure (a_load1p Try.underlying9 rfl (by first | rfl | assumption | ((try simp only [List.getElem?_drop, List.getElem?_take, Int.toNat_natCast, Nat.mul_one, Nat.add_zero, Nat.zero_add]); first | assumption | rfl))) rfl rfl ?_)
    (refine r_pure (a_move (r := .p _)) rfl rfl ?_)
    (refine r_pure a_nilPt rfl rfl ?_)
    (refine r_pure (b_fieldAddrP fi82_2 rfl) rfl rfl ?_)
    (refine r_pure (a_indexAddrAP Try.underlying80 sz74 (by omega) (by omega) rfl) rfl rfl ?_)
    (refine r_pure (a_load1p Try.underlying74 rfl (by first | rfl | assumption | ((try simp only [List.getElem?_drop, List.getElem?_take, Int.toNat_natCast, Nat.mul_one, Nat.add_zero, Nat.zero_add]); first | assumption | rfl))) rfl rfl ?_)
    (refine r_pure (a_move (r := .fn _ _)) rfl rfl ?_)
    (refine r_callS (fun n => 22 + 1000 * n) (hl) rfl rfl Try.func56 rfl rfl (by first | rfl | simp [AV.okInL, AV.okIn, hC]) rfl rfl rfl (by first | exact trivial | exact ⟨rfl, trivial⟩ | exact ⟨rfl, rfl, trivial⟩) rfl rfl rfl ?_)
    (refine r_pure (a_move (r := .p _)) rfl rfl ?_)
    (refine r_pure a_nilPt rfl rfl ?_)
    (refine r_pure (b_fieldAddrP fi82_2 rfl) rfl rfl ?_)
    (refine r_pure (a_indexAddrAP Try.underlying80 sz74 (by omega) (by omega) rfl) rfl rfl ?_)
    (refine r_pure (a_load1p Try.underlying74 rfl (by first | rfl | assumption | ((try simp only [List.getElem?_drop, List.getElem?_take, Int.toNat_natCast, Nat.mul_one, Nat.add_zero, Nat.zero_add]); first | assumption | rfl))) rfl rfl ?_)
    (refine r_pure (a_move (r := .fn _ _)) rfl rfl ?_)
    (refine r_callS (fun n => 29 + 1000 * n) (hr) rfl rfl Try.func56 rfl rfl (by first | rfl | simp [AV.okInL, AV.okIn, hC]) rfl rfl rfl (by first | exact trivial | exact ⟨rfl, trivial⟩ | exact ⟨rfl, rfl, trivial⟩) rfl rfl rfl ?_)
    (refine r_pure (a_buildA Try.underlying80 zr80 rfl sz74 rfl) rfl rfl ?_)
    (refine r_pure (b_build pl82 zr82 rfl rfl) rfl rfl ?_)
    (refine r_run (a_box (X := .agg _) 32 rfl) rfl rfl ⟨rfl, trivial⟩ ?_)
    (refine r_pure (a_assign (r := .ref _ _)) rfl rfl ?_)
    refine arun_nil ⟨by kernel_rfl, ?_⟩
    refine awp_seq (awp_seq ?_)
    refine awp_text (by kernel_rfl) ?_
    (refine r_pure (a_move (r := .fn _ _)) rfl rfl ?_)
    (refine r_pure (a_move (r := .p _)) rfl rfl ?_)
    refine r_callS (fun n => 35 + 1000 * n) hc rfl rfl hf hb hnm (by first | rfl | simp [AV.okInL, AV.okIn, hC]) rfl rfl rfl trivial rfl rfl rfl ?_
    refine arun_nil ?_
    refine thn_n ?_
    refine awp_join2 (St.of [(5, .ref 32 0)] [(32, .box 82 [.p (.v (.int .u32 (addrK p))), .p (.v (.int .i64 p.length)), .p (.v (.string (if b = true then noOwn else o))), .p (trP l'), .p (trP r')])]) ?_ ?_
    · refine awp_cond _ rfl (fun h => ?_) (fun h => ?_)
      · rw [if_pos h]
        skip
        refine awp_text (by kernel_rfl) ?_
        (refine r_pure (a_move (r := .ref _ _)) rfl rfl ?_)
        (refine r_pure a_nilRef rfl rfl ?_)
        (refine r_pure (b_fieldAddr fi82_1 rfl) rfl rfl ?_)
        (refine r_run (a_store (Y := .p _) sz9 rfl (by first | exact Nat.eq_of_beq_eq_true rfl | (simp only [AV.cells, List.length_map]; first | assumption | omega)) (by first | exact Nat.le_of_ble_eq_true rfl | omega | (simp only [AV.cells, List.length_map]; omega)) (by first | (simp only [setR, AV.cells, List.take_succ_cons, List.take_zero, List.drop_succ_cons, List.drop_zero, List.drop_nil, List.take_nil, List.nil_append, List.cons_append, List.append_nil, List.length_cons, List.length_nil, Nat.reduceAdd, Nat.zero_add, Nat.add_zero]; rfl) | rfl)) rfl rfl ⟨rfl, trivial⟩ ?_)
        refine arun_nil ?_
        refine thn_n ?_
        exact re_of id _ _ (by repeat (first | exact trivial | refine ⟨⟨rfl, rfl⟩, ?_⟩)) (by repeat (first | exact trivial | refine ⟨⟨rfl, rfl⟩, ?_⟩)) rfl
      · rw [if_neg (by simp [h])]
        refine awp_skip (thn_n ?_)
        exact re_of id _ _ (by repeat (first | exact trivial | refine ⟨⟨rfl, rfl⟩, ?_⟩)) (by repeat (first | exact trivial | refine ⟨⟨rfl, rfl⟩, ?_⟩)) rfl
    generalize (if b = true then noOwn else o) = o'
    unfold TR.pick
    refine awp_seq (awp_block (awp_seq ?_))
    refine awp_text (by kernel_rfl) ?_
    (refine r_pure (a_move (r := .ref _ _)) rfl rfl ?_)
    (refine r_pure a_nilRef rfl rfl ?_)
    (refine r_pure (b_fieldAddr fi82_1 rfl) rfl rfl ?_)
    (refine r_run (a_load1 Try.underlying9 rfl (by first | rfl | assumption)) rfl rfl ⟨rfl, trivial⟩ ?_)
    (refine r_pure a_sneq rfl rfl ?_)
    (refine r_pure (a_move (r := .p _)) rfl rfl ?_)
    (refine r_mb2 _ rfl rfl (by (repeat (first | exact stripOK_nil | refine stripOK_mb id ?_ | refine stripOK_p ?_ | refine stripOK_ref ?_ | refine stripOK_row ?_ | refine stripOK_ptr ?_ | refine stripOK_agg ?_ | refine stripOK_mb (by simp_all) ?_ | refine StripOK.plain _ _ rfl ?_))) (fun hb => (a_move (r := .ref _ _))) (fun _ => trivial) ?_)
    (refine r_mb2 _ rfl rfl (by (repeat (first | exact stripOK_nil | refine stripOK_mb id ?_ | refine stripOK_p ?_ | refine stripOK_ref ?_ | refine stripOK_row ?_ | refine stripOK_ptr ?_ | refine stripOK_agg ?_ | refine stripOK_mb (by simp_all) ?_ | refine StripOK.plain _ _ rfl ?_))) (fun hb => a_nilRef) (fun _ => trivial) ?_)
    (refine r_mb2 _ rfl rfl (by (repeat (first | exact stripOK_nil | refine stripOK_mb id ?_ | refine stripOK_p ?_ | refine stripOK_ref ?_ | refine stripOK_row ?_ | refine stripOK_ptr ?_ | refine stripOK_agg ?_ | refine stripOK_mb (by simp_all) ?_ | refine StripOK.plain _ _ rfl ?_))) (fun hb => (b_fieldAddr fi82_2 rfl)) (fun _ => trivial) ?_)
    (refine r_mb2 _ rfl rfl (by (repeat (first | exact stripOK_nil | refine stripOK_mb id ?_ | refine stripOK_p ?_ | refine stripOK_ref ?_ | refine stripOK_row ?_ | refine stripOK_ptr ?_ | refine stripOK_agg ?_ | refine stripOK_mb (by simp_all) ?_ | refine StripOK.plain _ _ rfl ?_))) (fun hb => (a_indexAddrA Try.underlying80 sz74 (by omega) (by omega) (by first | (simp only [Int.toNat_natCast, Nat.mul_one, Nat.zero_add]; rfl) | rfl))) (fun _ => trivial) ?_)
    (refine r_mb2 _ rfl rfl (by (repeat (first | exact stripOK_nil | refine stripOK_mb id ?_ | refine stripOK_p ?_ | refine stripOK_ref ?_ | refine stripOK_row ?_ | refine stripOK_ptr ?_ | refine stripOK_agg ?_ | refine stripOK_mb (by simp_all) ?_ | refine StripOK.plain _ _ rfl ?_))) (fun hb => (a_load1 Try.underlying74 rfl (by first | rfl | assumption))) (fun _ => ⟨rfl, trivial⟩) ?_)
    (refine r_mb2 _ rfl rfl (by (repeat (first | exact stripOK_nil | refine stripOK_mb id ?_ | refine stripOK_p ?_ | refine stripOK_ref ?_ | refine stripOK_row ?_ | refine stripOK_ptr ?_ | refine stripOK_agg ?_ | refine stripOK_mb (by simp_all) ?_ | refine StripOK.plain _ _ rfl ?_))) (fun hb => a_pneTR Try.underlying74) (fun _ => trivial) ?_)
    (refine r_mb2 _ rfl rfl (by (repeat (first | exact stripOK_nil | refine stripOK_mb id ?_ | refine stripOK_p ?_ | refine stripOK_ref ?_ | refine stripOK_row ?_ | refine stripOK_ptr ?_ | refine stripOK_agg ?_ | refine stripOK_mb (by simp_all) ?_ | refine StripOK.plain _ _ rfl ?_))) (fun hb => (a_move (r := .p _))) (fun _ => trivial) ?_)
    (refine r_mb2 _ rfl rfl (by (repeat (first | exact stripOK_nil | refine stripOK_mb id ?_ | refine stripOK_p ?_ | refine stripOK_ref ?_ | refine stripOK_row ?_ | refine stripOK_ptr ?_ | refine stripOK_agg ?_ | refine stripOK_mb (by simp_all) ?_ | refine StripOK.plain _ _ rfl ?_))) (fun hb => (a_move (r := .ref _ _))) (fun _ => trivial) ?_)
    (refine r_mb2 _ rfl rfl (by (repeat (first | exact stripOK_nil | refine stripOK_mb id ?_ | refine stripOK_p ?_ | refine stripOK_ref ?_ | refine stripOK_row ?_ | refine stripOK_ptr ?_ | refine stripOK_agg ?_ | refine stripOK_mb (by simp_all) ?_ | refine StripOK.plain _ _ rfl ?_))) (fun hb => a_nilRef) (fun _ => trivial) ?_)
    (refine r_mb2 _ rfl rfl (by (repeat (first | exact stripOK_nil | refine stripOK_mb id ?_ | refine stripOK_p ?_ | refine stripOK_ref ?_ | refine stripOK_row ?_ | refine stripOK_ptr ?_ | refine stripOK_agg ?_ | refine stripOK_mb (by simp_all) ?_ | refine StripOK.plain _ _ rfl ?_))) (fun hb => (b_fieldAddr fi82_2 rfl)) (fun _ => trivial) ?_)
    (refine r_mb2 _ rfl rfl (by (repeat (first | exact stripOK_nil | refine stripOK_mb id ?_ | refine stripOK_p ?_ | refine stripOK_ref ?_ | refine stripOK_row ?_ | refine stripOK_ptr ?_ | refine stripOK_agg ?_ | refine stripOK_mb (by simp_all) ?_ | refine StripOK.plain _ _ rfl ?_))) (fun hb => (a_indexAddrA Try.underlying80 sz74 (by omega) (by omega) (by first | (simp only [Int.toNat_natCast, Nat.mul_one, Nat.zero_add]; rfl) | rfl))) (fun _ => trivial) ?_)
    (refine r_mb2 _ rfl rfl (by (repeat (first | exact stripOK_nil | refine stripOK_mb id ?_ | refine stripOK_p ?_ | refine stripOK_ref ?_ | refine stripOK_row ?_ | refine stripOK_ptr ?_ | refine stripOK_agg ?_ | refine stripOK_mb (by simp_all) ?_ | refine StripOK.plain _ _ rfl ?_))) (fun hb => (a_load1 Try.underlying74 rfl (by first | rfl | assumption))) (fun _ => ⟨rfl, trivial⟩) ?_)
    (refine r_mb2 _ rfl rfl (by (repeat (first | exact stripOK_nil | refine stripOK_mb id ?_ | refine stripOK_p ?_ | refine stripOK_ref ?_ | refine stripOK_row ?_ | refine stripOK_ptr ?_ | refine stripOK_agg ?_ | refine stripOK_mb (by simp_all) ?_ | refine StripOK.plain _ _ rfl ?_))) (fun hb => a_pneTR Try.underlying74) (fun _ => trivial) ?_)
    (refine r_mb3 _ rfl rfl (.mb _ _ _ _ (by first | exact id | simp_all) (.keep _ _ _ (.keep _ _ _ .nil))) (fun hb => (a_and (by first | exact id | (simp_all; done) | grind))) (fun _ => trivial) ?_)
    (refine r_pure (a_or (by first | exact id | (simp; done) | grind)) rfl rfl ?_)
    (refine r_pure (a_assign (r := .p _)) rfl rfl ?_)
    refine arun_nil ?_
    refine thn_n ?_
    refine awp_cond _ rfl (fun h => ?_) (fun h => ?_)
    · have hc' : o' ≠ noOwn ∨ (l'.isNil = false ∧ r'.isNil = false) := by
        simp at h
        exact h
      rw [if_pos hc']
      refine awp_reO (reo_fz (cs := [.v (.int .u32 (addrK p)), .v (.int .i64 p.length), .v (.string o'), trP l', trP r']) 32 rfl rfl) ?_
      refine awp_seq ?_
      refine awp_text (by kernel_rfl) ?_
      (refine r_pure (a_move (r := .p _)) rfl rfl ?_)
      (refine r_pure (a_assign (r := .p _)) rfl rfl ?_)
      refine arun_nil ?_
      refine awp_ret (inb_r (thn_r ?_))
      refine ⟨(by first | exact .inl rfl | exact .inr rfl), _, (fun o => o), (.tmp _ _ _ _ rfl .nil), ?_, rfl, ?_, rfl⟩
      · exact rfl
      · exact trivial
    · have hc' : ¬ (o' ≠ noOwn ∨ (l'.isNil = false ∧ r'.isNil = false)) := by
        intro hh
        rcases hh with hh | ⟨h1, h2⟩
        · simp [hh] at h
        · simp [h1, h2] at h
      rw [if_neg hc']
      refine awp_seq ?_
      refine awp_text (by kernel_rfl) ?_
      (refine r_pure (a_move (r := .ref _ _)) rfl rfl ?_)
      (refine r_pure a_nilRef rfl rfl ?_)
      (refine r_pure (b_fieldAddr fi82_2 rfl) rfl rfl ?_)
      (refine r_pure (a_indexAddrA Try.underlying80 sz74 (by omega) (by omega) (by first | (simp only [Int.toNat_natCast, Nat.mul_one, Nat.zero_add]; rfl) | rfl)) rfl rfl ?_)
      (refine r_run (a_load1 Try.underlying74 rfl (by first | rfl | assumption)) rfl rfl ⟨rfl, trivial⟩ ?_)
      (refine r_pure (a_pneTR Try.underlying74) rfl rfl ?_)
      (refine r_pure (a_assign (r := .p _)) rfl rfl ?_)
      refine arun_nil ?_
      refine thn_n ?_
      refine awp_cond _ rfl (fun h => ?_) (fun h => ?_)
      · rw [if_pos (by simpa using h)]
        refine awp_seq ?_
        refine awp_text (by kernel_rfl) ?_
        (refine r_pure (a_move (r := .ref _ _)) rfl rfl ?_)
        (refine r_pure a_nilRef rfl rfl ?_)
        (refine r_pure (b_fieldAddr fi82_2 rfl) rfl rfl ?_)
        (refine r_pure (a_indexAddrA Try.underlying80 sz74 (by omega) (by omega) (by first | (simp only [Int.toNat_natCast, Nat.mul_one, Nat.zero_add]; rfl) | rfl)) rfl rfl ?_)
        (refine r_run (a_load1 Try.underlying74 rfl (by first | rfl | assumption)) rfl rfl ⟨rfl, trivial⟩ ?_)
        (refine r_pure (a_assign (r := .p _)) rfl rfl ?_)
        refine arun_nil ?_
        refine awp_ret (inb_r (thn_r ?_))
        refine ⟨(by first | exact .inl rfl | exact .inr rfl), _, (fun o => o), (.tmp _ _ _ _ rfl .nil), ?_, rfl, ?_, rfl⟩
        · exact rfl
        · exact trivial
      · rw [if_neg (by simpa using h)]
        refine awp_skip (awp_seq ?_)
        refine awp_text (by kernel_rfl) ?_
        (refine r_pure (a_move (r := .ref _ _)) rfl rfl ?_)
        (refine r_pure a_nilRef rfl rfl ?_)
        (refine r_pure (b_fieldAddr fi82_2 rfl) rfl rfl ?_)
        (refine r_pure (a_indexAddrA Try.underlying80 sz74 (by omega) (by omega) (by first | (simp only [Int.toNat_natCast, Nat.mul_one, Nat.zero_add]; rfl) | rfl)) rfl rfl ?_)
        (refine r_run (a_load1 Try.underlying74 rfl (by first | rfl | assumption)) rfl rfl ⟨rfl, trivial⟩ ?_)
        (refine r_pure (a_assign (r := .p _)) rfl rfl ?_)
        refine arun_nil ?_
        refine awp_ret ?_
        refine ⟨(by first | exact .inl rfl | exact .inr rfl), _, (fun o => o), (.tmp _ _ _ _ rfl .nil), ?_, rfl, ?_, rfl⟩
        · exact rfl
        · exact trivial

theorem drop1_s (q p : Key) (o : ByteArray) (l r : TR) (hp : p.length ≤ 32) : Fn Try.prog 62 [.p (ndP p o l r), .ptr [.v (.int .u32 (addrK q)), .v (.int .i64 q.length)]] (.p (.v (.bool (decide (p = q))))) [] := by
  rw [← keyEq hp]
  unfold ndP
  refine fn_intro Try.func62 rfl (Nat.le_of_ble_eq_true rfl) fun w0 A => ?_
  refine awp_seq ?_
  refine awp_text (by kernel_rfl) ?_
  (refine r_pure (a_assign (r := .p _)) rfl rfl ?_)
  refine arun_nil ?_
  refine awp_seq ?_
  refine awp_draw 4 (by kernel_rfl) ?_
  (refine r_pure (a_move (r := .p _)) rfl rfl ?_)
  (refine r_pure a_nilPt rfl rfl ?_)
  (refine r_pure (b_fieldAddrP fi82_0 rfl) rfl rfl ?_)
  (refine r_pure (a_loadNp Try.underlying36 rfl sz36 (by first | omega | (simp; done) | (simp; omega)) (rfl)) rfl rfl ?_)
  (refine r_pure (a_loadNp Try.underlying36 rfl sz36 (by first | omega | (simp; done) | (simp; omega)) (rfl)) rfl rfl ?_)
  (refine r_pure (a_steql Try.underlying36 rfl rfl (by kernel_rfl) (by kernel_rfl) (by kernel_rfl)) rfl rfl ?_)
  (refine r_pure (a_assign (r := .p _)) rfl rfl ?_)
  refine arun_nil ⟨by kernel_rfl, ?_⟩
  refine awp_ret ?_
  refine ⟨(by first | exact .inl rfl | exact .inr rfl), _, (fun o => o), (.tmp _ _ _ _ rfl .nil), ?_, rfl, ?_, rfl⟩
  · exact rfl
  · exact trivial
theorem dropOwner1_s (w : ByteArray) (p : Key) (o : ByteArray) (l r : TR) : Fn Try.prog 57 [.p (ndP p o l r), .ptr [.v (.string w)]] (.p (.v (.bool (decide (o = w))))) [] := by
  unfold ndP
  refine fn_intro Try.func57 rfl (Nat.le_of_ble_eq_true rfl) fun w0 A => ?_
  refine awp_seq ?_
  refine awp_text (by kernel_rfl) ?_
  (refine r_pure (a_assign (r := .p _)) rfl rfl ?_)
  refine arun_nil ?_
  refine awp_seq ?_
  refine awp_draw 4 (by kernel_rfl) ?_
  (refine r_pure (a_move (r := .p _)) rfl rfl ?_)
  (refine r_pure a_nilPt rfl rfl ?_)
  (refine r_pure (b_fieldAddrP fi82_1 rfl) rfl rfl ?_)
  (refine r_pure (a_load1p Try.underlying9 rfl (by first | rfl | assumption | ((try simp only [List.getElem?_drop, List.getElem?_take, Int.toNat_natCast, Nat.mul_one, Nat.add_zero, Nat.zero_add]); first | assumption | rfl))) rfl rfl ?_)
  (refine r_pure (a_load1p Try.underlying9 rfl (by first | rfl | assumption | ((try simp only [List.getElem?_drop, List.getElem?_take, Int.toNat_natCast, Nat.mul_one, Nat.add_zero, Nat.zero_add]); first | assumption | rfl))) rfl rfl ?_)
  (refine r_pure a_seql rfl rfl ?_)
  (refine r_pure (a_assign (r := .p _)) rfl rfl ?_)
  refine arun_nil ⟨by kernel_rfl, ?_⟩
  refine awp_ret ?_
  refine ⟨(by first | exact .inl rfl | exact .inr rfl), _, (fun o => o), (.tmp _ _ _ _ rfl .nil), ?_, rfl, ?_, rfl⟩
  · exact rfl
  · exact trivial

def dropOL (l : List ND) (w : ByteArray) : List ND := ((treeOf l).strip fun _ o => decide (o = w)).list
set_option maxHeartbeats 2000000 in
theorem dropOwner_s (l : List ND) (hok : ∀ x ∈ l, x.OK) (hz : l.length * 40 ≤ 140737488351232) (w : ByteArray) : Fn Try.prog 21 [.p (ndsV l), .p (.v (.string w))] (nRes (trieE l)) (nNew (trieE l) (dropOL l w)) := by
  have hC := tcheck_s l hok (by omega)
  have hT := tree_s l hok (by omega)
  have hTi := trieE_iff hok
  by_cases h1 : trieE l ≠ 0
  · obtain ⟨e1, e2⟩ := nRes_bad h1 (dropOL l w)
    rw [e1, e2]
    generalize trieE l = e at *
    refine fn_intro Try.func21 rfl (Nat.le_of_ble_eq_true rfl) fun w0 A => ?_
    refine awp_seq ?_
    refine awp_text (by kernel_rfl) ?_
    (refine r_run (a_box (X := .p _) 3 rfl) rfl rfl ⟨rfl, trivial⟩ ?_)
    (refine r_pure (a_assign (r := .p _)) rfl rfl ?_)
    (refine r_pure (a_assign (r := .p _)) rfl rfl ?_)
    refine arun_nil ?_
    refine awp_seq (awp_seq ?_)
    refine awp_text (by kernel_rfl) ?_
    (refine r_pure (a_move (r := .p _)) rfl rfl ?_)
    (refine r_callV (fun n => 8 + 1000 * n) (hC) rfl rfl Try.func14 rfl rfl (by first | rfl | simp [AV.noSl, AV.noSlL, AObj.noSl, PV.isV, bs_noSl]) (by first | rfl | simp [AV.noSl, AV.noSlL, AObj.noSl, PV.isV, bs_noSl]) rfl rfl rfl (by first | exact trivial | exact ⟨rfl, trivial⟩ | exact ⟨rfl, rfl, trivial⟩) rfl rfl rfl ?_)
    (refine r_pure (a_assign (r := .p _)) rfl rfl ?_)
    refine arun_nil ?_
    refine awp_seq ?_
    refine awp_text (by kernel_rfl) ?_
    (refine r_pure (a_move (r := .p _)) rfl rfl ?_)
    (refine r_pure a_neq rfl rfl ?_)
    refine arun_nil ?_
    refine thn_n ?_
    refine awp_cond _ rfl (fun h => ?_) (fun h => ?_)
    · refine awp_seq ?_
      refine awp_text (by kernel_rfl) ?_
      (refine r_pure (a_move (r := .p _)) rfl rfl ?_)
      (refine r_pure (a_assign (r := .p _)) rfl rfl ?_)
      (refine r_pure (a_assign (r := .p _)) rfl rfl ?_)
      refine arun_nil ?_
      refine awp_ret (thn_r ?_)
      refine ⟨(by first | exact .inl rfl | exact .inr rfl), _, (fun o => o), (.tmp _ _ _ _ rfl (.tmp _ _ _ _ rfl .nil)), ?_, rfl, ?_, rfl⟩
      · exact rfl
      · exact trivial
    · exact absurd (by simpa using h) h1
  replace h1 : trieE l = 0 := Decidable.not_not.1 h1
  rw [h1] at hC ⊢
  obtain ⟨e1, e2⟩ := nRes_good (dropOL l w)
  rw [e1, e2]
  clear e1 e2
  obtain ⟨hv, hs, hl⟩ := hTi.1 h1
  have hP := strip_s (C := [.ptr [.v (.string w)]]) (fun _ o => decide (o = w)) Try.func57 rfl rfl rfl (fun p o l r _ => dropOwner1_s w p o l r) (treeOf l) hs
  have hlen := TR.strip_len (fun _ o => decide (o = w)) (treeOf l)
  rw [← hl] at hlen
  have hL := list_s ((treeOf l).strip fun _ o => decide (o = w)) (by omega)
  have hCl := cloneN_s ((treeOf l).strip fun _ o => decide (o = w)).list.length (nds ((treeOf l).strip fun _ o => decide (o = w)).list) (nds_len _) (by omega)
  have hT' : Fn Try.prog 50 [.p (ndsV l)] (.p (trP (treeOf l))) [] := hT
  have hiv := nds_isV ((treeOf l).strip fun _ o => decide (o = w)).list
  unfold dropOL
  generalize ((treeOf l).strip fun _ o => decide (o = w)) = u at *
  generalize treeOf l = t at *
  generalize nds u.list = cs at *
  generalize u.list.length = m at *
  refine fn_intro Try.func21 rfl (Nat.le_of_ble_eq_true rfl) fun w0 A => ?_
  refine awp_seq ?_
  refine awp_text (by kernel_rfl) ?_
  (refine r_run (a_box (X := .p _) 3 rfl) rfl rfl ⟨rfl, trivial⟩ ?_)
  (refine r_pure (a_assign (r := .p _)) rfl rfl ?_)
  (refine r_pure (a_assign (r := .p _)) rfl rfl ?_)
  refine arun_nil ?_
  refine awp_seq (awp_seq ?_)
  refine awp_text (by kernel_rfl) ?_
  (refine r_pure (a_move (r := .p _)) rfl rfl ?_)
  (refine r_callV (fun n => 8 + 1000 * n) (hC) rfl rfl Try.func14 rfl rfl (by first | rfl | simp [AV.noSl, AV.noSlL, AObj.noSl, PV.isV, bs_noSl]) (by first | rfl | simp [AV.noSl, AV.noSlL, AObj.noSl, PV.isV, bs_noSl]) rfl rfl rfl (by first | exact trivial | exact ⟨rfl, trivial⟩ | exact ⟨rfl, rfl, trivial⟩) rfl rfl rfl ?_)
  (refine r_pure (a_assign (r := .p _)) rfl rfl ?_)
  refine arun_nil ?_
  refine awp_seq ?_
  refine awp_text (by kernel_rfl) ?_
  (refine r_pure (a_move (r := .p _)) rfl rfl ?_)
  (refine r_pure a_neqT rfl rfl ?_)
  refine arun_nil ?_
  refine thn_n ?_
  refine awp_cond _ rfl (fun h => ?_) (fun h => ?_)
  · cases h
  refine awp_reO (reo_fzV (cs := [.v (.string w)]) 3 rfl rfl) ?_
  refine awp_skip (awp_seq ?_)
  refine awp_text (by kernel_rfl) ?_
  (refine r_pure (a_move (r := .p _)) rfl rfl ?_)
  (refine r_callS (fun n => 13 + 1000 * n) (hT') rfl rfl Try.func50 rfl rfl (by first | rfl | simp [AV.okInL, AV.okIn, okInL_map]) rfl rfl rfl (by first | exact trivial | exact ⟨rfl, trivial⟩ | exact ⟨rfl, rfl, trivial⟩) rfl rfl rfl ?_)
  (refine r_pure a_makeFunc rfl rfl ?_)
  (refine r_callS (fun n => 15 + 1000 * n) (hP) rfl rfl Try.func56 rfl rfl (by first | rfl | simp [AV.okInL, AV.okIn, okInL_map]) rfl rfl rfl (by first | exact trivial | exact ⟨rfl, trivial⟩ | exact ⟨rfl, rfl, trivial⟩) rfl rfl rfl ?_)
  (refine r_callS (fun n => 16 + 1000 * n) (hL) rfl rfl Try.func58 rfl rfl (by first | rfl | simp [AV.okInL, AV.okIn, okInL_map]) rfl rfl rfl (by first | exact trivial | exact ⟨rfl, trivial⟩ | exact ⟨rfl, rfl, trivial⟩) rfl rfl rfl ?_)
  (refine r_callV (fun n => 17 + 1000 * n) (hCl) rfl rfl Try.func55 rfl rfl (by simp [AV.noSl, AV.noSlL, AObj.noSl, hiv]) (by simp [AV.noSl, AV.noSlL, AObj.noSl, hiv]) rfl rfl rfl (by first | exact trivial | exact ⟨rfl, trivial⟩ | exact ⟨rfl, rfl, trivial⟩) rfl rfl rfl ?_)
  (refine r_pure (a_assign (r := .row _)) rfl rfl ?_)
  (refine r_pure (a_assign (r := .p _)) rfl rfl ?_)
  refine arun_nil ?_
  refine awp_ret ?_
  refine ⟨(by first | exact .inl rfl | exact .inr rfl), _, (fun _ => 17), (.tmp _ _ _ _ rfl (.tmp _ _ _ _ rfl .nil)), ?_, rfl, ?_, rfl⟩
  · exact rfl
  · exact ⟨⟨rfl, rfl⟩, trivial⟩

def getE (l : List ND) (n : ND) : Int := if trieE l ≠ 0 then trieE l else if n.fault ≠ 0 then n.fault else if (treeOf l).get n.key = noOwn then 5 else 0
def getO (l : List ND) (n : ND) : ByteArray := if getE l n = 0 then (treeOf l).get n.key else noOwn
theorem getO_bad {l : List ND} {n : ND} (h : getE l n ≠ 0) : getO l n = noOwn := by unfold getO; rw [if_neg h]
set_option maxHeartbeats 4000000 in
theorem get_s (l : List ND) (hok : ∀ x ∈ l, x.OK) (hz : l.length * 40 ≤ 140737488351232) (n : ND) (n0 : 0 ≤ n.a) (n1 : n.a < 4294967296) : Fn Try.prog 23 [.p (ndsV l), .agg (netA n.a n.n)] (.tup [.p (.v (.string (getO l n))), .p (.v (.int .i64 (getE l n)))]) [] := by
  have hC := tcheck_s l hok (by omega)
  have hT := tree_s l hok (by omega)
  have hTi := trieE_iff hok
  have hN := nCheck_s n.a n.n n0 n1
  have hK := @ND.keyed n n0 n1
  have e0 : netFault n.a n.n = n.fault := rfl
  rw [e0] at hN
  have hE : getE l n = if trieE l ≠ 0 then trieE l else if n.fault ≠ 0 then n.fault else if (treeOf l).get n.key = noOwn then 5 else 0 := rfl
  by_cases h1 : trieE l ≠ 0
  · rw [if_pos h1] at hE
    rw [getO_bad (by rw [hE]; exact h1), hE]
    generalize trieE l = e at *
    refine fn_intro Try.func23 rfl (Nat.le_of_ble_eq_true rfl) fun w0 A => ?_
    refine awp_seq ?_
    refine awp_text (by kernel_rfl) ?_
    (refine r_run (a_box (X := .agg _) 3 rfl) rfl rfl ⟨rfl, trivial⟩ ?_)
    (refine r_pure (a_assign (r := .p _)) rfl rfl ?_)
    (refine r_pure (a_assign (r := .p _)) rfl rfl ?_)
    refine arun_nil ?_
    refine awp_seq (awp_seq ?_)
    refine awp_text (by kernel_rfl) ?_
    (refine r_pure (a_move (r := .p _)) rfl rfl ?_)
    (refine r_callV (fun n => 10 + 1000 * n) (hC) rfl rfl Try.func14 rfl rfl (by first | rfl | simp [AV.noSl, AV.noSlL, AObj.noSl, PV.isV, bs_noSl]) (by first | rfl | simp [AV.noSl, AV.noSlL, AObj.noSl, PV.isV, bs_noSl]) rfl rfl rfl (by first | exact trivial | exact ⟨rfl, trivial⟩ | exact ⟨rfl, rfl, trivial⟩) rfl rfl rfl ?_)
    (refine r_pure (a_assign (r := .p _)) rfl rfl ?_)
    refine arun_nil ?_
    refine awp_seq ?_
    refine awp_text (by kernel_rfl) ?_
    (refine r_pure (a_move (r := .p _)) rfl rfl ?_)
    (refine r_pure a_neq rfl rfl ?_)
    refine arun_nil ?_
    refine thn_n ?_
    refine awp_cond _ rfl (fun h => ?_) (fun h => ?_)
    · refine awp_seq ?_
      refine awp_text (by kernel_rfl) ?_
      (refine r_pure (a_move (r := .p _)) rfl rfl ?_)
      (refine r_pure (a_assign (r := .p _)) rfl rfl ?_)
      (refine r_pure (a_assign (r := .p _)) rfl rfl ?_)
      refine arun_nil ?_
      refine awp_ret (thn_r ?_)
      refine ⟨(by first | exact .inl rfl | exact .inr rfl), _, (fun o => o), (.tmp _ _ _ _ rfl (.tmp _ _ _ _ rfl .nil)), ?_, rfl, ?_, rfl⟩
      · exact rfl
      · exact trivial
    · exact absurd (by simpa using h) h1
  rw [if_neg h1] at hE
  replace h1 : trieE l = 0 := Decidable.not_not.1 h1
  rw [h1] at hC
  by_cases h2 : n.fault ≠ 0
  · rw [if_pos h2] at hE
    rw [getO_bad (by rw [hE]; exact h2), hE]
    generalize n.fault = e at *
    refine fn_intro Try.func23 rfl (Nat.le_of_ble_eq_true rfl) fun w0 A => ?_
    refine awp_seq ?_
    refine awp_text (by kernel_rfl) ?_
    (refine r_run (a_box (X := .agg _) 3 rfl) rfl rfl ⟨rfl, trivial⟩ ?_)
    (refine r_pure (a_assign (r := .p _)) rfl rfl ?_)
    (refine r_pure (a_assign (r := .p _)) rfl rfl ?_)
    refine arun_nil ?_
    refine awp_seq (awp_seq ?_)
    refine awp_text (by kernel_rfl) ?_
    (refine r_pure (a_move (r := .p _)) rfl rfl ?_)
    (refine r_callV (fun n => 10 + 1000 * n) (hC) rfl rfl Try.func14 rfl rfl (by first | rfl | simp [AV.noSl, AV.noSlL, AObj.noSl, PV.isV, bs_noSl]) (by first | rfl | simp [AV.noSl, AV.noSlL, AObj.noSl, PV.isV, bs_noSl]) rfl rfl rfl (by first | exact trivial | exact ⟨rfl, trivial⟩ | exact ⟨rfl, rfl, trivial⟩) rfl rfl rfl ?_)
    (refine r_pure (a_assign (r := .p _)) rfl rfl ?_)
    refine arun_nil ?_
    refine awp_seq ?_
    refine awp_text (by kernel_rfl) ?_
    (refine r_pure (a_move (r := .p _)) rfl rfl ?_)
    (refine r_pure a_neqT rfl rfl ?_)
    refine arun_nil ?_
    refine thn_n ?_
    refine awp_cond _ rfl (fun h => ?_) (fun h => ?_)
    · cases h
    refine awp_skip (awp_seq (awp_seq ?_))
    refine awp_text (by kernel_rfl) ?_
    (refine r_run (a_loadN Try.underlying36 rfl sz36 (by first | exact Nat.le_of_ble_eq_true rfl | omega | (simp only [AV.cells, List.length_map]; omega)) (by first | exact take_all (by first | assumption | exact Nat.eq_of_beq_eq_true rfl | (simp only [AV.cells, List.length_map]; first | assumption | omega)) | (simp only [List.take_succ_cons, List.take_zero, List.drop_succ_cons, List.drop_zero]; rfl) | rfl)) rfl rfl ⟨rfl, trivial⟩ ?_)
    (refine r_callV (fun n => 15 + 1000 * n) (hN) rfl rfl Try.func45 rfl rfl (by first | rfl | simp [AV.noSl, AV.noSlL, AObj.noSl, PV.isV, bs_noSl]) (by first | rfl | simp [AV.noSl, AV.noSlL, AObj.noSl, PV.isV, bs_noSl]) rfl rfl rfl (by first | exact trivial | exact ⟨rfl, trivial⟩ | exact ⟨rfl, rfl, trivial⟩) rfl rfl rfl ?_)
    (refine r_pure (a_assign (r := .p _)) rfl rfl ?_)
    refine arun_nil ?_
    refine awp_seq ?_
    refine awp_text (by kernel_rfl) ?_
    (refine r_pure (a_move (r := .p _)) rfl rfl ?_)
    (refine r_pure a_neq rfl rfl ?_)
    refine arun_nil ?_
    refine thn_n ?_
    refine awp_cond _ rfl (fun h => ?_) (fun h => ?_)
    · refine awp_seq ?_
      refine awp_text (by kernel_rfl) ?_
      (refine r_pure (a_move (r := .p _)) rfl rfl ?_)
      (refine r_pure (a_assign (r := .p _)) rfl rfl ?_)
      (refine r_pure (a_assign (r := .p _)) rfl rfl ?_)
      refine arun_nil ?_
      refine awp_ret (thn_r ?_)
      refine ⟨(by first | exact .inl rfl | exact .inr rfl), _, (fun o => o), (.tmp _ _ _ _ rfl (.tmp _ _ _ _ rfl .nil)), ?_, rfl, ?_, rfl⟩
      · exact rfl
      · exact trivial
    · exact absurd (by simpa using h) h2
  rw [if_neg h2] at hE
  replace h2 : n.fault = 0 := Decidable.not_not.1 h2
  rw [h2] at hN
  obtain ⟨hv, hs, hl⟩ := hTi.1 h1
  obtain ⟨k1, k2, k3⟩ := hK h2
  have hT' : Fn Try.prog 50 [.p (ndsV l)] (.p (trP (treeOf l))) [] := hT
  clear hT hTi
  have hO : getO l n = if getE l n = 0 then (treeOf l).get n.key else noOwn := rfl
  generalize getO l n = O at *
  generalize getE l n = E at *
  obtain ⟨G, hG⟩ : ∃ G, (treeOf l).get n.key = G := ⟨_, rfl⟩
  rw [hG] at hE hO
  generalize treeOf l = t0 at *
  generalize n.key = k at *
  obtain ⟨na, nn, no, ns⟩ := n
  simp only at k2 k3
  subst k2
  subst k3
  clear hl hC e0
  have hC : Fn Try.prog 14 [.p (ndsV l)] (.p (.v (.int .i64 0))) [] := by rw [← h1]; exact tcheck_s l hok (by omega)
  refine fn_intro Try.func23 rfl (Nat.le_of_ble_eq_true rfl) fun w0 A => ?_
  refine awp_seq ?_
  refine awp_text (by kernel_rfl) ?_
  (refine r_run (a_box (X := .agg _) 3 rfl) rfl rfl ⟨rfl, trivial⟩ ?_)
  (refine r_pure (a_assign (r := .p _)) rfl rfl ?_)
  (refine r_pure (a_assign (r := .p _)) rfl rfl ?_)
  refine arun_nil ?_
  refine awp_seq (awp_seq ?_)
  refine awp_text (by kernel_rfl) ?_
  (refine r_pure (a_move (r := .p _)) rfl rfl ?_)
  (refine r_callV (fun n => 10 + 1000 * n) (hC) rfl rfl Try.func14 rfl rfl (by first | rfl | simp [AV.noSl, AV.noSlL, AObj.noSl, PV.isV, bs_noSl]) (by first | rfl | simp [AV.noSl, AV.noSlL, AObj.noSl, PV.isV, bs_noSl]) rfl rfl rfl (by first | exact trivial | exact ⟨rfl, trivial⟩ | exact ⟨rfl, rfl, trivial⟩) rfl rfl rfl ?_)
  (refine r_pure (a_assign (r := .p _)) rfl rfl ?_)
  refine arun_nil ?_
  refine awp_seq ?_
  refine awp_text (by kernel_rfl) ?_
  (refine r_pure (a_move (r := .p _)) rfl rfl ?_)
  (refine r_pure a_neqT rfl rfl ?_)
  refine arun_nil ?_
  refine thn_n ?_
  refine awp_cond _ rfl (fun h => ?_) (fun h => ?_)
  · cases h
  refine awp_skip (awp_seq (awp_seq ?_))
  refine awp_text (by kernel_rfl) ?_
  (refine r_run (a_loadN Try.underlying36 rfl sz36 (by first | exact Nat.le_of_ble_eq_true rfl | omega | (simp only [AV.cells, List.length_map]; omega)) (by first | exact take_all (by first | assumption | exact Nat.eq_of_beq_eq_true rfl | (simp only [AV.cells, List.length_map]; first | assumption | omega)) | (simp only [List.take_succ_cons, List.take_zero, List.drop_succ_cons, List.drop_zero]; rfl) | rfl)) rfl rfl ⟨rfl, trivial⟩ ?_)
  (refine r_callV (fun n => 15 + 1000 * n) (hN) rfl rfl Try.func45 rfl rfl (by first | rfl | simp [AV.noSl, AV.noSlL, AObj.noSl, PV.isV, bs_noSl]) (by first | rfl | simp [AV.noSl, AV.noSlL, AObj.noSl, PV.isV, bs_noSl]) rfl rfl rfl (by first | exact trivial | exact ⟨rfl, trivial⟩ | exact ⟨rfl, rfl, trivial⟩) rfl rfl rfl ?_)
  (refine r_pure (a_assign (r := .p _)) rfl rfl ?_)
  refine arun_nil ?_
  refine awp_seq ?_
  refine awp_text (by kernel_rfl) ?_
  (refine r_pure (a_move (r := .p _)) rfl rfl ?_)
  (refine r_pure a_neqT rfl rfl ?_)
  refine arun_nil ?_
  refine thn_n ?_
  refine awp_cond _ rfl (fun h => ?_) (fun h => ?_)
  · cases h
  refine awp_skip (awp_seq ?_)
  refine awp_text (by kernel_rfl) ?_
  (refine r_pure (a_move (r := .p _)) rfl rfl ?_)
  (refine r_callS (fun n => 20 + 1000 * n) (hT') rfl rfl Try.func50 rfl rfl (by first | rfl | simp [AV.okInL, AV.okIn, okInL_map]) rfl rfl rfl (by first | exact trivial | exact ⟨rfl, trivial⟩ | exact ⟨rfl, rfl, trivial⟩) rfl rfl rfl ?_)
  (refine r_pure (a_assign (r := .p _)) rfl rfl ?_)
  refine arun_nil ?_
  refine awp_seq (awp_block ?_)
  refine awp_loopR (fun m st => ∃ t : TR, t.list.length ≤ m ∧ t.short ∧ t.get k = G ∧ st = St.of [(3, .ref 3 0), (8, .p (trP t))] [(3, .box 36 (netA (addrK k) k.length))]) t0.list.length ?_ ?_
  · refine ⟨_, re_of id _ _ (by repeat (first | exact trivial | refine ⟨⟨rfl, rfl⟩, ?_⟩)) (by repeat (first | exact trivial | refine ⟨⟨rfl, rfl⟩, ?_⟩)) rfl, t0, Nat.le_refl _, hs, hG, rfl⟩
  rintro m st ⟨t, hm, hts, htG, rfl⟩
  cases t with
  | nil =>
    have hGn : G = noOwn := htG.symm
    rw [hGn, if_pos rfl] at hE
    rw [hE] at hO
    rw [if_neg (by decide)] at hO
    rw [hE, hO]
    show awp _ _ _ (St.of [(3, .ref 3 0), (8, .p (.v (.pointer none)))] _)
    refine awp_seq (awp_seq ?_)
    refine awp_draw 4 (by kernel_rfl) ?_
    (refine r_pure (a_move (r := .p _)) rfl rfl ?_)
    (refine r_pure (a_pneNN Try.underlying74) rfl rfl ?_)
    (refine r_pure (a_move (r := .p _)) rfl rfl ?_)
    (refine r_skipG rfl ?_)
    (refine r_skipG rfl ?_)
    (refine r_skipG rfl ?_)
    (refine r_skipG rfl ?_)
    (refine r_skipG rfl ?_)
    (refine r_skipG rfl ?_)
    (refine r_pure a_pickF rfl rfl ?_)
    (refine r_pure (a_move (r := .p _)) rfl rfl ?_)
    (refine r_skipG rfl ?_)
    (refine r_skipG rfl ?_)
    (refine r_skipG rfl ?_)
    (refine r_skipG rfl ?_)
    (refine r_skipG rfl ?_)
    (refine r_skipG rfl ?_)
    (refine r_pure a_pickF rfl rfl ?_)
    refine arun_nil ⟨by kernel_rfl, ?_⟩
    refine thn_n ?_
    refine awp_cond _ rfl (fun h => ?_) (fun h => ?_)
    · cases h
    refine awp_exit (awp_seq (awp_seq ?_))
    refine awp_draw 4 (by kernel_rfl) ?_
    (refine r_pure (a_move (r := .p _)) rfl rfl ?_)
    (refine r_pure (a_peqNN Try.underlying74) rfl rfl ?_)
    (refine r_pure (a_move (r := .p _)) rfl rfl ?_)
    (refine r_skipG rfl ?_)
    (refine r_skipG rfl ?_)
    (refine r_skipG rfl ?_)
    (refine r_skipG rfl ?_)
    (refine r_skipG rfl ?_)
    (refine r_skipG rfl ?_)
    (refine r_pure a_pickT rfl rfl ?_)
    (refine r_pure (a_move (r := .p _)) rfl rfl ?_)
    (refine r_skipG rfl ?_)
    (refine r_skipG rfl ?_)
    (refine r_skipG rfl ?_)
    (refine r_skipG rfl ?_)
    (refine r_skipG rfl ?_)
    (refine r_pure a_pickT rfl rfl ?_)
    refine arun_nil ⟨by kernel_rfl, ?_⟩
    refine thn_n ?_
    refine awp_cond _ rfl (fun h => ?_) (fun h => ?_)
    · refine awp_seq ?_
      refine awp_text (by kernel_rfl) ?_
      (refine r_pure (a_assign (r := .p _)) rfl rfl ?_)
      (refine r_pure (a_assign (r := .p _)) rfl rfl ?_)
      refine arun_nil ?_
      refine awp_ret (thn_r ?_)
      refine ⟨(by first | exact .inl rfl | exact .inr rfl), _, (fun o => o), (.tmp _ _ _ _ rfl (.tmp _ _ _ _ rfl .nil)), ?_, rfl, ?_, rfl⟩
      · exact rfl
      · exact trivial
    · cases h
  | nd p o tl tr =>
    have hH := kHolds_s p k hts.1 k1
    have hEq := keyEq (q := k) hts.1
    show awp _ _ _ (St.of [(3, .ref 3 0), (8, .p (.pt [.v (.int .u32 (addrK p)), .v (.int .i64 p.length), .v (.string o), trP tl, trP tr]))] _)
    unfold netA at hH
    refine awp_seq (awp_seq ?_)
    refine awp_draw 4 (by kernel_rfl) ?_
    (refine r_pure (a_move (r := .p _)) rfl rfl ?_)
    (refine r_pure (a_pnePN Try.underlying74) rfl rfl ?_)
    (refine r_pure (a_move (r := .p _)) rfl rfl ?_)
    (refine r_pure (a_move (r := .p _)) rfl rfl ?_)
    (refine r_pure a_nilPt rfl rfl ?_)
    (refine r_pure (b_fieldAddrP fi82_0 rfl) rfl rfl ?_)
    (refine r_pure (a_loadNp Try.underlying36 rfl sz36 (by first | omega | (simp; done) | (simp; omega)) (rfl)) rfl rfl ?_)
    (refine r_run (a_loadN Try.underlying36 rfl sz36 (by first | exact Nat.le_of_ble_eq_true rfl | omega | (simp only [AV.cells, List.length_map]; omega)) (by first | exact take_all (by first | assumption | exact Nat.eq_of_beq_eq_true rfl | (simp only [AV.cells, List.length_map]; first | assumption | omega)) | (simp only [List.take_succ_cons, List.take_zero, List.drop_succ_cons, List.drop_zero]; rfl) | rfl)) rfl rfl ⟨rfl, trivial⟩ ?_)
    (refine r_pure (a_stneq Try.underlying36 rfl rfl (by kernel_rfl) (by kernel_rfl) (by kernel_rfl)) rfl rfl ?_)
    (refine r_pure a_pickT rfl rfl ?_)
    (refine r_pure (a_move (r := .p _)) rfl rfl ?_)
    (refine r_mb2 _ rfl rfl (by (repeat (first | exact stripOK_nil | refine stripOK_mb id ?_ | refine stripOK_p ?_ | refine stripOK_ref ?_ | refine stripOK_row ?_ | refine stripOK_ptr ?_ | refine stripOK_agg ?_ | refine stripOK_mb (by simp_all) ?_ | refine StripOK.plain _ _ rfl ?_))) (fun hb => (a_move (r := .p _))) (fun _ => trivial) ?_)
    (refine r_mb2 _ rfl rfl (by (repeat (first | exact stripOK_nil | refine stripOK_mb id ?_ | refine stripOK_p ?_ | refine stripOK_ref ?_ | refine stripOK_row ?_ | refine stripOK_ptr ?_ | refine stripOK_agg ?_ | refine stripOK_mb (by simp_all) ?_ | refine StripOK.plain _ _ rfl ?_))) (fun hb => a_nilPtr) (fun _ => trivial) ?_)
    (refine r_mb2 _ rfl rfl (by (repeat (first | exact stripOK_nil | refine stripOK_mb id ?_ | refine stripOK_p ?_ | refine stripOK_ref ?_ | refine stripOK_row ?_ | refine stripOK_ptr ?_ | refine stripOK_agg ?_ | refine stripOK_mb (by simp_all) ?_ | refine StripOK.plain _ _ rfl ?_))) (fun hb => (b_fieldAddrP fi82_0 rfl)) (fun _ => trivial) ?_)
    (refine r_mb2 _ rfl rfl (by (repeat (first | exact stripOK_nil | refine stripOK_mb id ?_ | refine stripOK_p ?_ | refine stripOK_ref ?_ | refine stripOK_row ?_ | refine stripOK_ptr ?_ | refine stripOK_agg ?_ | refine stripOK_mb (by simp_all) ?_ | refine StripOK.plain _ _ rfl ?_))) (fun hb => (a_loadNp Try.underlying36 rfl sz36 (by first | omega | (simp; done) | (simp; omega)) (rfl))) (fun _ => trivial) ?_)
    (refine r_mb2 _ rfl rfl (by (repeat (first | exact stripOK_nil | refine stripOK_mb id ?_ | refine stripOK_p ?_ | refine stripOK_ref ?_ | refine stripOK_row ?_ | refine stripOK_ptr ?_ | refine stripOK_agg ?_ | refine stripOK_mb (by simp_all) ?_ | refine StripOK.plain _ _ rfl ?_))) (fun hb => (a_loadN Try.underlying36 rfl sz36 (by first | exact Nat.le_of_ble_eq_true rfl | omega | (simp only [AV.cells, List.length_map]; omega)) (by first | exact take_all (by first | assumption | exact Nat.eq_of_beq_eq_true rfl | (simp only [AV.cells, List.length_map]; first | assumption | omega)) | (simp only [List.take_succ_cons, List.take_zero, List.drop_succ_cons, List.drop_zero]; rfl) | rfl))) (fun _ => ⟨rfl, trivial⟩) ?_)
    (refine r_mb2 _ rfl rfl (by (repeat (first | exact stripOK_nil | refine stripOK_mb id ?_ | refine stripOK_p ?_ | refine stripOK_ref ?_ | refine stripOK_row ?_ | refine stripOK_ptr ?_ | refine stripOK_agg ?_ | refine stripOK_mb (by simp_all) ?_ | refine StripOK.plain _ _ rfl ?_))) (fun _ => a_callS0 Try.func61 rfl rfl (hH) (by first | rfl | simp [AV.okInL, AV.okIn, okInL_map]) rfl) (fun _ => trivial) ?_)
    (refine r_pure (a_and (by first | exact id | (simp; done) | grind)) rfl rfl ?_)
    refine arun_nil ⟨by kernel_rfl, ?_⟩
    refine thn_n ?_
    refine awp_cond _ rfl (fun h => ?_) (fun h => ?_)
    · have hc : p ≠ k ∧ p <+: k := by
        have h' : ((!eqL [.int .u32 (addrK p), .int .i64 p.length] [.int .u32 (addrK k), .int .i64 k.length]) && decide (p <+: k)) = true := h
        rw [hEq] at h'
        simpa using h'
      clear h
      have hx := pre_next hc.2 (fun e => hc.1 e.symm)
      have hlt : p.length < k.length := by have := hx.length_le; simp at this; omega
      have hS := side_s p k hlt k1
      rw [TR.get, if_neg hc.1, if_pos hc.2] at htG
      rw [TR.list_nd] at hm
      simp only [List.length_cons, List.length_append] at hm
      cases hb : bitAt k p.length with
      | true =>
        rw [show bitN k p.length = 1 by unfold bitN; rw [hb]; rfl] at hS
        rw [hb, if_pos rfl] at htG
        refine awp_skip (awp_block ?_)
        refine awp_draw 4 (by kernel_rfl) ?_
        (refine r_pure (a_move (r := .p _)) rfl rfl ?_)
        (refine r_pure (a_move (r := .p _)) rfl rfl ?_)
        (refine r_pure a_nilPt rfl rfl ?_)
        (refine r_pure (b_fieldAddrP fi82_0 rfl) rfl rfl ?_)
        (refine r_pure (a_loadNp Try.underlying36 rfl sz36 (by first | omega | (simp; done) | (simp; omega)) (rfl)) rfl rfl ?_)
        (refine r_run (a_loadN Try.underlying36 rfl sz36 (by first | exact Nat.le_of_ble_eq_true rfl | omega | (simp only [AV.cells, List.length_map]; omega)) (by first | exact take_all (by first | assumption | exact Nat.eq_of_beq_eq_true rfl | (simp only [AV.cells, List.length_map]; first | assumption | omega)) | (simp only [List.take_succ_cons, List.take_zero, List.drop_succ_cons, List.drop_zero]; rfl) | rfl)) rfl rfl ⟨rfl, trivial⟩ ?_)
        (refine r_callV (fun n => 45 + 1000 * n) (hS) rfl rfl Try.func52 rfl rfl (by first | rfl | simp [AV.noSl, AV.noSlL, AObj.noSl, PV.isV, bs_noSl]) (by first | rfl | simp [AV.noSl, AV.noSlL, AObj.noSl, PV.isV, bs_noSl]) rfl rfl rfl (by first | exact trivial | exact ⟨rfl, trivial⟩ | exact ⟨rfl, rfl, trivial⟩) rfl rfl rfl ?_)
        (refine r_pure a_nilPt rfl rfl ?_)
        (refine r_pure (b_fieldAddrP fi82_2 rfl) rfl rfl ?_)
        (refine r_pure (a_indexAddrAP Try.underlying80 sz74 (by omega) (by omega) rfl) rfl rfl ?_)
        (refine r_pure (a_load1p Try.underlying74 rfl (by first | rfl | assumption | ((try simp only [List.getElem?_drop, List.getElem?_take, Int.toNat_natCast, Nat.mul_one, Nat.add_zero, Nat.zero_add]); first | assumption | rfl))) rfl rfl ?_)
        (refine r_pure (a_assign (r := .p _)) rfl rfl ?_)
        refine arun_nil ⟨by kernel_rfl, ?_⟩
        refine inb_n (thn_n ?_)
        refine ⟨m - 1, by omega, _, re_of id _ _ (by repeat (first | exact trivial | refine ⟨⟨rfl, rfl⟩, ?_⟩)) (by repeat (first | exact trivial | refine ⟨⟨rfl, rfl⟩, ?_⟩)) rfl, tr, by omega, hts.2.2, htG, rfl⟩
      | false =>
        rw [show bitN k p.length = 0 by unfold bitN; rw [hb]; rfl] at hS
        rw [hb, if_neg (by simp)] at htG
        refine awp_skip (awp_block ?_)
        refine awp_draw 4 (by kernel_rfl) ?_
        (refine r_pure (a_move (r := .p _)) rfl rfl ?_)
        (refine r_pure (a_move (r := .p _)) rfl rfl ?_)
        (refine r_pure a_nilPt rfl rfl ?_)
        (refine r_pure (b_fieldAddrP fi82_0 rfl) rfl rfl ?_)
        (refine r_pure (a_loadNp Try.underlying36 rfl sz36 (by first | omega | (simp; done) | (simp; omega)) (rfl)) rfl rfl ?_)
        (refine r_run (a_loadN Try.underlying36 rfl sz36 (by first | exact Nat.le_of_ble_eq_true rfl | omega | (simp only [AV.cells, List.length_map]; omega)) (by first | exact take_all (by first | assumption | exact Nat.eq_of_beq_eq_true rfl | (simp only [AV.cells, List.length_map]; first | assumption | omega)) | (simp only [List.take_succ_cons, List.take_zero, List.drop_succ_cons, List.drop_zero]; rfl) | rfl)) rfl rfl ⟨rfl, trivial⟩ ?_)
        (refine r_callV (fun n => 45 + 1000 * n) (hS) rfl rfl Try.func52 rfl rfl (by first | rfl | simp [AV.noSl, AV.noSlL, AObj.noSl, PV.isV, bs_noSl]) (by first | rfl | simp [AV.noSl, AV.noSlL, AObj.noSl, PV.isV, bs_noSl]) rfl rfl rfl (by first | exact trivial | exact ⟨rfl, trivial⟩ | exact ⟨rfl, rfl, trivial⟩) rfl rfl rfl ?_)
        (refine r_pure a_nilPt rfl rfl ?_)
        (refine r_pure (b_fieldAddrP fi82_2 rfl) rfl rfl ?_)
        (refine r_pure (a_indexAddrAP Try.underlying80 sz74 (by omega) (by omega) rfl) rfl rfl ?_)
        (refine r_pure (a_load1p Try.underlying74 rfl (by first | rfl | assumption | ((try simp only [List.getElem?_drop, List.getElem?_take, Int.toNat_natCast, Nat.mul_one, Nat.add_zero, Nat.zero_add]); first | assumption | rfl))) rfl rfl ?_)
        (refine r_pure (a_assign (r := .p _)) rfl rfl ?_)
        refine arun_nil ⟨by kernel_rfl, ?_⟩
        refine inb_n (thn_n ?_)
        refine ⟨m - 1, by omega, _, re_of id _ _ (by repeat (first | exact trivial | refine ⟨⟨rfl, rfl⟩, ?_⟩)) (by repeat (first | exact trivial | refine ⟨⟨rfl, rfl⟩, ?_⟩)) rfl, tl, by omega, hts.2.1, htG, rfl⟩
    · have hc : p = k ∨ ¬ p <+: k := by
        have h' : ((!eqL [.int .u32 (addrK p), .int .i64 p.length] [.int .u32 (addrK k), .int .i64 k.length]) && decide (p <+: k)) = false := h
        rw [hEq] at h'
        simp only [Bool.and_eq_false_iff, Bool.not_eq_false', decide_eq_true_eq, decide_eq_false_iff_not] at h'
        exact h'
      clear h
      have hGo : G = if p = k then o else noOwn := by
        rw [← htG, TR.get]
        by_cases e : p = k
        · rw [if_pos e, if_pos e]
        · rw [if_neg e, if_neg e, if_neg (hc.resolve_left e)]
      refine awp_exit (awp_seq (awp_seq ?_))
      refine awp_draw 4 (by kernel_rfl) ?_
      (refine r_pure (a_move (r := .p _)) rfl rfl ?_)
      (refine r_pure (a_peqPN Try.underlying74) rfl rfl ?_)
      (refine r_pure (a_move (r := .p _)) rfl rfl ?_)
      (refine r_pure (a_move (r := .p _)) rfl rfl ?_)
      (refine r_pure a_nilPt rfl rfl ?_)
      (refine r_pure (b_fieldAddrP fi82_0 rfl) rfl rfl ?_)
      (refine r_pure (a_loadNp Try.underlying36 rfl sz36 (by first | omega | (simp; done) | (simp; omega)) (rfl)) rfl rfl ?_)
      (refine r_run (a_loadN Try.underlying36 rfl sz36 (by first | exact Nat.le_of_ble_eq_true rfl | omega | (simp only [AV.cells, List.length_map]; omega)) (by first | exact take_all (by first | assumption | exact Nat.eq_of_beq_eq_true rfl | (simp only [AV.cells, List.length_map]; first | assumption | omega)) | (simp only [List.take_succ_cons, List.take_zero, List.drop_succ_cons, List.drop_zero]; rfl) | rfl)) rfl rfl ⟨rfl, trivial⟩ ?_)
      (refine r_pure (a_stneq Try.underlying36 rfl rfl (by kernel_rfl) (by kernel_rfl) (by kernel_rfl)) rfl rfl ?_)
      (refine r_pure a_pickF rfl rfl ?_)
      (refine r_pure (a_move (r := .p _)) rfl rfl ?_)
      (refine r_mb2 _ rfl rfl (by (repeat (first | exact stripOK_nil | refine stripOK_mb id ?_ | refine stripOK_p ?_ | refine stripOK_ref ?_ | refine stripOK_row ?_ | refine stripOK_ptr ?_ | refine stripOK_agg ?_ | refine stripOK_mb (by simp_all) ?_ | refine StripOK.plain _ _ rfl ?_))) (fun hb => (a_move (r := .p _))) (fun _ => trivial) ?_)
      (refine r_mb2 _ rfl rfl (by (repeat (first | exact stripOK_nil | refine stripOK_mb id ?_ | refine stripOK_p ?_ | refine stripOK_ref ?_ | refine stripOK_row ?_ | refine stripOK_ptr ?_ | refine stripOK_agg ?_ | refine stripOK_mb (by simp_all) ?_ | refine StripOK.plain _ _ rfl ?_))) (fun hb => a_nilPtr) (fun _ => trivial) ?_)
      (refine r_mb2 _ rfl rfl (by (repeat (first | exact stripOK_nil | refine stripOK_mb id ?_ | refine stripOK_p ?_ | refine stripOK_ref ?_ | refine stripOK_row ?_ | refine stripOK_ptr ?_ | refine stripOK_agg ?_ | refine stripOK_mb (by simp_all) ?_ | refine StripOK.plain _ _ rfl ?_))) (fun hb => (b_fieldAddrP fi82_1 rfl)) (fun _ => trivial) ?_)
      (refine r_mb2 _ rfl rfl (by (repeat (first | exact stripOK_nil | refine stripOK_mb id ?_ | refine stripOK_p ?_ | refine stripOK_ref ?_ | refine stripOK_row ?_ | refine stripOK_ptr ?_ | refine stripOK_agg ?_ | refine stripOK_mb (by simp_all) ?_ | refine StripOK.plain _ _ rfl ?_))) (fun hb => (a_load1p Try.underlying9 rfl (by first | rfl | assumption | ((try simp only [List.getElem?_drop, List.getElem?_take, Int.toNat_natCast, Nat.mul_one, Nat.add_zero, Nat.zero_add]); first | assumption | rfl)))) (fun _ => trivial) ?_)
      (refine r_mb2 _ rfl rfl (by (repeat (first | exact stripOK_nil | refine stripOK_mb id ?_ | refine stripOK_p ?_ | refine stripOK_ref ?_ | refine stripOK_row ?_ | refine stripOK_ptr ?_ | refine stripOK_agg ?_ | refine stripOK_mb (by simp_all) ?_ | refine StripOK.plain _ _ rfl ?_))) (fun hb => a_seql) (fun _ => trivial) ?_)
      (refine r_pure (a_or (by first | exact id | (simp; done) | grind)) rfl rfl ?_)
      refine arun_nil ⟨by kernel_rfl, ?_⟩
      refine thn_n ?_
      refine awp_cond _ rfl (fun h => ?_) (fun h => ?_)
      · have hGn : G = noOwn := by
          have h' : ((false || !eqL [.int .u32 (addrK p), .int .i64 p.length] [.int .u32 (addrK k), .int .i64 k.length]) || decide (o = noOwn)) = true := h
          rw [hEq] at h'
          rw [hGo]
          by_cases e : p = k
          · rw [if_pos e]
            simpa [e] using h'
          · rw [if_neg e]
        rw [hGn, if_pos rfl] at hE
        rw [hE] at hO
        rw [if_neg (by decide)] at hO
        rw [hE, hO]
        refine awp_seq ?_
        refine awp_text (by kernel_rfl) ?_
        (refine r_pure (a_assign (r := .p _)) rfl rfl ?_)
        (refine r_pure (a_assign (r := .p _)) rfl rfl ?_)
        refine arun_nil ?_
        refine awp_ret (thn_r ?_)
        refine ⟨(by first | exact .inl rfl | exact .inr rfl), _, (fun o => o), (.tmp _ _ _ _ rfl (.tmp _ _ _ _ rfl .nil)), ?_, rfl, ?_, rfl⟩
        · exact rfl
        · exact trivial
      · have h2 : p = k ∧ o ≠ noOwn := by
          have h' : ((false || !eqL [.int .u32 (addrK p), .int .i64 p.length] [.int .u32 (addrK k), .int .i64 k.length]) || decide (o = noOwn)) = false := h
          rw [hEq] at h'
          simpa using h'
        rw [if_pos h2.1] at hGo
        rw [hGo, if_neg h2.2] at hE
        rw [hE, if_pos rfl, hGo] at hO
        rw [hE, hO]
        refine awp_skip (awp_seq ?_)
        refine awp_text (by kernel_rfl) ?_
        (refine r_pure (a_move (r := .p _)) rfl rfl ?_)
        (refine r_pure a_nilPt rfl rfl ?_)
        (refine r_pure (b_fieldAddrP fi82_1 rfl) rfl rfl ?_)
        (refine r_pure (a_load1p Try.underlying9 rfl (by first | rfl | assumption | ((try simp only [List.getElem?_drop, List.getElem?_take, Int.toNat_natCast, Nat.mul_one, Nat.add_zero, Nat.zero_add]); first | assumption | rfl))) rfl rfl ?_)
        (refine r_pure (a_assign (r := .p _)) rfl rfl ?_)
        (refine r_pure (a_assign (r := .p _)) rfl rfl ?_)
        refine arun_nil ?_
        refine awp_ret ?_
        refine ⟨(by first | exact .inl rfl | exact .inr rfl), _, (fun o => o), (.tmp _ _ _ _ rfl (.tmp _ _ _ _ rfl .nil)), ?_, rfl, ?_, rfl⟩
        · exact rfl
        · exact trivial

def dropL (l : List ND) (n : ND) : List ND := ((treeOf l).strip fun p _ => decide (p = n.key)).list
set_option maxHeartbeats 2000000 in
theorem drop_s (l : List ND) (hok : ∀ x ∈ l, x.OK) (hz : l.length * 40 ≤ 140737488351232) (n : ND) (n0 : 0 ≤ n.a) (n1 : n.a < 4294967296) : Fn Try.prog 24 [.p (ndsV l), .agg (netA n.a n.n)] (nRes (getE l n)) (nNew (getE l n) (dropL l n)) := by
  have hT := tree_s l hok (by omega)
  have hTi := trieE_iff hok
  have hG := get_s l hok hz n n0 n1
  by_cases h1 : getE l n ≠ 0
  · obtain ⟨e1, e2⟩ := nRes_bad h1 (dropL l n)
    rw [e1, e2]
    generalize getE l n = e at *
    generalize getO l n = oo at *
    refine fn_intro Try.func24 rfl (Nat.le_of_ble_eq_true rfl) fun w0 A => ?_
    refine awp_seq ?_
    refine awp_text (by kernel_rfl) ?_
    (refine r_run (a_box (X := .agg _) 3 rfl) rfl rfl ⟨rfl, trivial⟩ ?_)
    (refine r_pure (a_assign (r := .p _)) rfl rfl ?_)
    (refine r_pure (a_assign (r := .p _)) rfl rfl ?_)
    refine arun_nil ?_
    refine awp_seq (awp_seq ?_)
    refine awp_text (by kernel_rfl) ?_
    (refine r_pure (a_move (r := .p _)) rfl rfl ?_)
    (refine r_run (a_loadN Try.underlying36 rfl sz36 (by first | exact Nat.le_of_ble_eq_true rfl | omega | (simp only [AV.cells, List.length_map]; omega)) (by first | exact take_all (by first | assumption | exact Nat.eq_of_beq_eq_true rfl | (simp only [AV.cells, List.length_map]; first | assumption | omega)) | (simp only [List.take_succ_cons, List.take_zero, List.drop_succ_cons, List.drop_zero]; rfl) | rfl)) rfl rfl ⟨rfl, trivial⟩ ?_)
    (refine r_callV (fun n => 11 + 1000 * n) (hG) rfl rfl Try.func23 rfl rfl (by first | rfl | simp [AV.noSl, AV.noSlL, AObj.noSl, PV.isV, bs_noSl]) (by first | rfl | simp [AV.noSl, AV.noSlL, AObj.noSl, PV.isV, bs_noSl]) rfl rfl rfl (by first | exact trivial | exact ⟨rfl, trivial⟩ | exact ⟨rfl, rfl, trivial⟩) rfl rfl rfl ?_)
    (refine r_pure (a_move (r := .tup _)) rfl rfl ?_)
    (refine r_pure (a_extract rfl) rfl rfl ?_)
    (refine r_pure (a_extract rfl) rfl rfl ?_)
    (refine r_pure (a_assign (r := .p _)) rfl rfl ?_)
    (refine r_pure (a_assign (r := .p _)) rfl rfl ?_)
    refine arun_nil ?_
    refine awp_seq ?_
    refine awp_text (by kernel_rfl) ?_
    (refine r_pure (a_move (r := .p _)) rfl rfl ?_)
    (refine r_pure a_neq rfl rfl ?_)
    refine arun_nil ?_
    refine thn_n ?_
    refine awp_cond _ rfl (fun h => ?_) (fun h => ?_)
    · refine awp_seq ?_
      refine awp_text (by kernel_rfl) ?_
      (refine r_pure (a_move (r := .p _)) rfl rfl ?_)
      (refine r_pure (a_assign (r := .p _)) rfl rfl ?_)
      (refine r_pure (a_assign (r := .p _)) rfl rfl ?_)
      refine arun_nil ?_
      refine awp_ret (thn_r ?_)
      refine ⟨(by first | exact .inl rfl | exact .inr rfl), _, (fun o => o), (.tmp _ _ _ _ rfl (.tmp _ _ _ _ rfl .nil)), ?_, rfl, ?_, rfl⟩
      · exact rfl
      · exact trivial
    · exact absurd (by simpa using h) h1
  replace h1 : getE l n = 0 := Decidable.not_not.1 h1
  have h2 : trieE l = 0 ∧ n.fault = 0 := by
    have h1' := h1
    unfold getE at h1'
    by_cases a : trieE l = 0
    · rw [if_neg (by simp [a])] at h1'
      by_cases b : n.fault = 0
      · exact ⟨a, b⟩
      · rw [if_pos b] at h1'; exact absurd h1' b
    · rw [if_pos a] at h1'; exact absurd h1' a
  rw [h1] at hG ⊢
  obtain ⟨e1, e2⟩ := nRes_good (dropL l n)
  rw [e1, e2]
  clear e1 e2
  obtain ⟨hv, hs, hl⟩ := hTi.1 h2.1
  obtain ⟨k1, k2, k3⟩ := @ND.keyed n n0 n1 h2.2
  have hP := strip_s (C := [.ptr [.v (.int .u32 (addrK n.key)), .v (.int .i64 n.key.length)]]) (fun p _ => decide (p = n.key)) Try.func62 rfl rfl rfl (fun p o l r hp => drop1_s n.key p o l r hp) (treeOf l) hs
  have hlen := TR.strip_len (fun p _ => decide (p = n.key)) (treeOf l)
  rw [← hl] at hlen
  have hL := list_s ((treeOf l).strip fun p _ => decide (p = n.key)) (by omega)
  have hCl := cloneN_s ((treeOf l).strip fun p _ => decide (p = n.key)).list.length (nds ((treeOf l).strip fun p _ => decide (p = n.key)).list) (nds_len _) (by omega)
  have hT' : Fn Try.prog 50 [.p (ndsV l)] (.p (trP (treeOf l))) [] := hT
  have hiv := nds_isV ((treeOf l).strip fun p _ => decide (p = n.key)).list
  unfold dropL
  rw [← k2, ← k3] at hP
  generalize getO l n = oo at *
  generalize ((treeOf l).strip fun p _ => decide (p = n.key)) = u at *
  generalize treeOf l = t at *
  generalize nds u.list = cs at *
  generalize u.list.length = m at *
  refine fn_intro Try.func24 rfl (Nat.le_of_ble_eq_true rfl) fun w0 A => ?_
  refine awp_seq ?_
  refine awp_text (by kernel_rfl) ?_
  (refine r_run (a_box (X := .agg _) 3 rfl) rfl rfl ⟨rfl, trivial⟩ ?_)
  (refine r_pure (a_assign (r := .p _)) rfl rfl ?_)
  (refine r_pure (a_assign (r := .p _)) rfl rfl ?_)
  refine arun_nil ?_
  refine awp_seq (awp_seq ?_)
  refine awp_text (by kernel_rfl) ?_
  (refine r_pure (a_move (r := .p _)) rfl rfl ?_)
  (refine r_run (a_loadN Try.underlying36 rfl sz36 (by first | exact Nat.le_of_ble_eq_true rfl | omega | (simp only [AV.cells, List.length_map]; omega)) (by first | exact take_all (by first | assumption | exact Nat.eq_of_beq_eq_true rfl | (simp only [AV.cells, List.length_map]; first | assumption | omega)) | (simp only [List.take_succ_cons, List.take_zero, List.drop_succ_cons, List.drop_zero]; rfl) | rfl)) rfl rfl ⟨rfl, trivial⟩ ?_)
  (refine r_callV (fun n => 11 + 1000 * n) (hG) rfl rfl Try.func23 rfl rfl (by first | rfl | simp [AV.noSl, AV.noSlL, AObj.noSl, PV.isV, bs_noSl]) (by first | rfl | simp [AV.noSl, AV.noSlL, AObj.noSl, PV.isV, bs_noSl]) rfl rfl rfl (by first | exact trivial | exact ⟨rfl, trivial⟩ | exact ⟨rfl, rfl, trivial⟩) rfl rfl rfl ?_)
  (refine r_pure (a_move (r := .tup _)) rfl rfl ?_)
  (refine r_pure (a_extract rfl) rfl rfl ?_)
  (refine r_pure (a_extract rfl) rfl rfl ?_)
  (refine r_pure (a_assign (r := .p _)) rfl rfl ?_)
  (refine r_pure (a_assign (r := .p _)) rfl rfl ?_)
  refine arun_nil ?_
  refine awp_seq ?_
  refine awp_text (by kernel_rfl) ?_
  (refine r_pure (a_move (r := .p _)) rfl rfl ?_)
  (refine r_pure a_neqT rfl rfl ?_)
  refine arun_nil ?_
  refine thn_n ?_
  refine awp_cond _ rfl (fun h => ?_) (fun h => ?_)
  · cases h
  refine awp_reO (reo_fzV (cs := [.v (.int .u32 n.a), .v (.int .i64 n.n)]) 3 rfl rfl) ?_
  refine awp_skip (awp_seq ?_)
  refine awp_text (by kernel_rfl) ?_
  (refine r_pure (a_move (r := .p _)) rfl rfl ?_)
  (refine r_callS (fun n => 18 + 1000 * n) (hT') rfl rfl Try.func50 rfl rfl (by first | rfl | simp [AV.okInL, AV.okIn, okInL_map]) rfl rfl rfl (by first | exact trivial | exact ⟨rfl, trivial⟩ | exact ⟨rfl, rfl, trivial⟩) rfl rfl rfl ?_)
  (refine r_pure a_makeFunc rfl rfl ?_)
  (refine r_callS (fun n => 20 + 1000 * n) (hP) rfl rfl Try.func56 rfl rfl (by first | rfl | simp [AV.okInL, AV.okIn, okInL_map]) rfl rfl rfl (by first | exact trivial | exact ⟨rfl, trivial⟩ | exact ⟨rfl, rfl, trivial⟩) rfl rfl rfl ?_)
  (refine r_callS (fun n => 21 + 1000 * n) (hL) rfl rfl Try.func58 rfl rfl (by first | rfl | simp [AV.okInL, AV.okIn, okInL_map]) rfl rfl rfl (by first | exact trivial | exact ⟨rfl, trivial⟩ | exact ⟨rfl, rfl, trivial⟩) rfl rfl rfl ?_)
  (refine r_callV (fun n => 22 + 1000 * n) (hCl) rfl rfl Try.func55 rfl rfl (by simp [AV.noSl, AV.noSlL, AObj.noSl, hiv]) (by simp [AV.noSl, AV.noSlL, AObj.noSl, hiv]) rfl rfl rfl (by first | exact trivial | exact ⟨rfl, trivial⟩ | exact ⟨rfl, rfl, trivial⟩) rfl rfl rfl ?_)
  (refine r_pure (a_assign (r := .row _)) rfl rfl ?_)
  (refine r_pure (a_assign (r := .p _)) rfl rfl ?_)
  refine arun_nil ?_
  refine awp_ret ?_
  refine ⟨(by first | exact .inl rfl | exact .inr rfl), _, (fun _ => 22), (.tmp _ _ _ _ rfl (.tmp _ _ _ _ rfl .nil)), ?_, rfl, ?_, rfl⟩
  · exact rfl
  · exact ⟨⟨rfl, rfl⟩, trivial⟩

def findO (l : List ND) (a : Int) : ByteArray := (treeOf l).find (keyOf a.toNat 32) noOwn
def findE (l : List ND) (a : Int) : Int := if trieE l ≠ 0 then trieE l else if findO l a = noOwn then 11 else 0
def findR (l : List ND) (a : Int) : AV := .tup [.p (.v (.string (if findE l a = 0 then findO l a else noOwn))), .p (.v (.int .i64 (findE l a)))]
theorem nrAddr {a : Int} (h0 : 0 ≤ a) (h1 : a < 4294967296) : (keyOf a.toNat 32).length = 32 ∧ a = addrK (keyOf a.toNat 32) := by
  refine ⟨keyOf_len _ _, ?_⟩
  have := keyOf_val a.toNat 32 (by omega) (by omega)
  unfold addrK addrN
  rw [keyOf_len, this]
  simp
  omega
theorem kHas_s (p q : Key) (hp : p.length ≤ 32) (hq : q.length = 32) : Fn Try.prog 51 [.agg (keyA p), .p (.v (.int .u32 (addrK q)))] (.p (.v (.bool (decide (p <+: q))))) [] := by
  have h := nHas_s (addrK p) p.length (addrK q) (addrK_bd p hp).1 (addrK_bd p hp).2 (addrK_bd q (by omega)).1 (addrK_bd q (by omega)).2
  rw [has_pre p q hp hq] at h
  exact h
set_option maxHeartbeats 4000000 in
theorem find_s (l : List ND) (hok : ∀ x ∈ l, x.OK) (hz : l.length * 40 ≤ 140737488351232) (a : Int) (a0 : 0 ≤ a) (a1 : a < 4294967296) : Fn Try.prog 16 [.p (ndsV l), .p (.v (.int .u32 a))] (findR l a) [] := by
  have hC := tcheck_s l hok (by omega)
  have hT := tree_s l hok (by omega)
  have hTi := trieE_iff hok
  unfold findR findE
  by_cases h1 : trieE l ≠ 0
  · rw [if_pos h1, if_neg h1]
    generalize trieE l = e at *
    refine fn_intro Try.func16 rfl (Nat.le_of_ble_eq_true rfl) fun w0 A => ?_
    refine awp_seq ?_
    refine awp_text (by kernel_rfl) ?_
    (refine r_pure (a_assign (r := .p _)) rfl rfl ?_)
    (refine r_pure (a_assign (r := .p _)) rfl rfl ?_)
    refine arun_nil ?_
    refine awp_seq (awp_seq ?_)
    refine awp_text (by kernel_rfl) ?_
    (refine r_pure (a_move (r := .p _)) rfl rfl ?_)
    (refine r_callV (fun n => 11 + 1000 * n) (hC) rfl rfl Try.func14 rfl rfl (by first | rfl | simp [AV.noSl, AV.noSlL, AObj.noSl, PV.isV, bs_noSl]) (by first | rfl | simp [AV.noSl, AV.noSlL, AObj.noSl, PV.isV, bs_noSl]) rfl rfl rfl (by first | exact trivial | exact ⟨rfl, trivial⟩ | exact ⟨rfl, rfl, trivial⟩) rfl rfl rfl ?_)
    (refine r_pure (a_assign (r := .p _)) rfl rfl ?_)
    refine arun_nil ?_
    refine awp_seq ?_
    refine awp_text (by kernel_rfl) ?_
    (refine r_pure (a_move (r := .p _)) rfl rfl ?_)
    (refine r_pure a_neq rfl rfl ?_)
    refine arun_nil ?_
    refine thn_n ?_
    refine awp_cond _ rfl (fun h => ?_) (fun h => ?_)
    · refine awp_seq ?_
      refine awp_text (by kernel_rfl) ?_
      (refine r_pure (a_move (r := .p _)) rfl rfl ?_)
      (refine r_pure (a_assign (r := .p _)) rfl rfl ?_)
      (refine r_pure (a_assign (r := .p _)) rfl rfl ?_)
      refine arun_nil ?_
      refine awp_ret (thn_r ?_)
      refine ⟨(by first | exact .inl rfl | exact .inr rfl), _, (fun o => o), (.tmp _ _ _ _ rfl (.tmp _ _ _ _ rfl .nil)), ?_, rfl, ?_, rfl⟩
      · exact rfl
      · exact trivial
    · exact absurd (by simpa using h) h1
  rw [if_neg h1]
  replace h1 : trieE l = 0 := Decidable.not_not.1 h1
  rw [h1] at hC
  obtain ⟨hv, hs, hl⟩ := hTi.1 h1
  have hT' : Fn Try.prog 50 [.p (ndsV l)] (.p (trP (treeOf l))) [] := hT
  obtain ⟨q32, qa⟩ := nrAddr a0 a1
  obtain ⟨R, hR⟩ : ∃ R, R = findO l a := ⟨_, rfl⟩
  rw [← hR]
  unfold findO at hR
  generalize keyOf a.toNat 32 = q at *
  subst qa
  have q32' : (32 : Int) = (q.length : Int) := by rw [q32]; rfl
  generalize treeOf l = t0 at *
  clear hTi hT hl
  refine fn_intro Try.func16 rfl (Nat.le_of_ble_eq_true rfl) fun w0 A => ?_
  refine awp_seq ?_
  refine awp_text (by kernel_rfl) ?_
  (refine r_pure (a_assign (r := .p _)) rfl rfl ?_)
  (refine r_pure (a_assign (r := .p _)) rfl rfl ?_)
  refine arun_nil ?_
  refine awp_seq (awp_seq ?_)
  refine awp_text (by kernel_rfl) ?_
  (refine r_pure (a_move (r := .p _)) rfl rfl ?_)
  (refine r_callV (fun n => 11 + 1000 * n) (hC) rfl rfl Try.func14 rfl rfl (by first | rfl | simp [AV.noSl, AV.noSlL, AObj.noSl, PV.isV, bs_noSl]) (by first | rfl | simp [AV.noSl, AV.noSlL, AObj.noSl, PV.isV, bs_noSl]) rfl rfl rfl (by first | exact trivial | exact ⟨rfl, trivial⟩ | exact ⟨rfl, rfl, trivial⟩) rfl rfl rfl ?_)
  (refine r_pure (a_assign (r := .p _)) rfl rfl ?_)
  refine arun_nil ?_
  refine awp_seq ?_
  refine awp_text (by kernel_rfl) ?_
  (refine r_pure (a_move (r := .p _)) rfl rfl ?_)
  (refine r_pure a_neqT rfl rfl ?_)
  refine arun_nil ?_
  refine thn_n ?_
  refine awp_cond _ rfl (fun h => ?_) (fun h => ?_)
  · cases h
  refine awp_skip (awp_seq ?_)
  refine awp_text (by kernel_rfl) ?_
  (refine r_pure (a_assign (r := .p _)) rfl rfl ?_)
  refine arun_nil ?_
  refine awp_seq ?_
  refine awp_text (by kernel_rfl) ?_
  (refine r_pure (a_move (r := .p _)) rfl rfl ?_)
  (refine r_pure (b_build pl36 zr36 rfl rfl) rfl rfl ?_)
  (refine r_run (a_alloc 8 zr36 rfl) rfl rfl ⟨rfl, trivial⟩ ?_)
  (refine r_run (a_storeAll (Y := .agg _) sz36 rfl (by first | exact Nat.eq_of_beq_eq_true rfl | (simp only [AV.cells, List.length_map]; first | assumption | omega)) (Nat.eq_of_beq_eq_true rfl)) rfl rfl ⟨rfl, trivial⟩ ?_)
  refine arun_nil ?_
  refine awp_seq (awp_seq ?_)
  refine awp_text (by kernel_rfl) ?_
  (refine r_pure (a_move (r := .p _)) rfl rfl ?_)
  (refine r_callS (fun n => 18 + 1000 * n) (hT') rfl rfl Try.func50 rfl rfl (by first | rfl | simp [AV.okInL, AV.okIn, okInL_map]) rfl rfl rfl (by first | exact trivial | exact ⟨rfl, trivial⟩ | exact ⟨rfl, rfl, trivial⟩) rfl rfl rfl ?_)
  (refine r_pure (a_assign (r := .p _)) rfl rfl ?_)
  refine arun_nil ?_
  refine awp_block ?_
  refine awp_joinB (St.of [(7, .p (.v (.string R)))] []) ?_ ?_
  · refine awp_loopR (fun m st => ∃ (t : TR) (acc : ByteArray), t.list.length ≤ m ∧ t.short ∧ t.find q acc = R ∧ st = St.of [(1, .p (.v (.int .u32 (addrK q)))), (7, .p (.v (.string acc))), (8, .ref 8 0), (9, .p (trP t))] [(8, .box 36 [.p (.v (.int .u32 (addrK q))), .p (.v (.int .i64 32))])]) t0.list.length ?_ ?_
    · refine ⟨_, re_of id _ _ (by repeat (first | exact trivial | refine ⟨⟨rfl, rfl⟩, ?_⟩)) (by repeat (first | exact trivial | refine ⟨⟨rfl, rfl⟩, ?_⟩)) rfl, t0, noOwn, Nat.le_refl _, hs, hR.symm, rfl⟩
    rintro m st ⟨t, acc, hm, hts, htR, rfl⟩
    cases t with
    | nil =>
      rw [TR.find] at htR
      subst htR
      show awp _ _ _ (St.of [(1, .p (.v (.int .u32 (addrK q)))), (7, .p (.v (.string acc))), (8, .ref 8 0), (9, .p (.v (.pointer none)))] _)
      refine awp_seq (awp_seq ?_)
      refine awp_text (by kernel_rfl) ?_
      (refine r_pure (a_move (r := .p _)) rfl rfl ?_)
      (refine r_pure (a_pneNN Try.underlying74) rfl rfl ?_)
      (refine r_pure (a_move (r := .p _)) rfl rfl ?_)
      (refine r_skipG rfl ?_)
      (refine r_skipG rfl ?_)
      (refine r_skipG rfl ?_)
      (refine r_skipG rfl ?_)
      (refine r_skipG rfl ?_)
      (refine r_skipG rfl ?_)
      (refine r_pure a_pickF rfl rfl ?_)
      refine arun_nil ?_
      refine thn_n ?_
      refine awp_cond _ rfl (fun h => ?_) (fun h => ?_)
      · cases h
      · refine awp_exit (thn_x (thn_x (inb_x (thn_n ?_))))
        exact re_of0 _ (by repeat (first | exact trivial | refine ⟨⟨rfl, rfl⟩, ?_⟩))
    | nd p o tl tr =>
      have hH := kHas_s p q hts.1 q32
      have hEq := keyEq (q := q) hts.1
      show awp _ _ _ (St.of [(1, .p (.v (.int .u32 (addrK q)))), (7, .p (.v (.string acc))), (8, .ref 8 0), (9, .p (.pt [.v (.int .u32 (addrK p)), .v (.int .i64 p.length), .v (.string o), trP tl, trP tr]))] _)
      unfold keyA netA at hH
      rw [TR.list_nd] at hm
      simp only [List.length_cons, List.length_append] at hm
      rw [TR.find] at htR
      rw [← q32'] at hEq
      refine awp_seq (awp_seq ?_)
      refine awp_text (by kernel_rfl) ?_
      (refine r_pure (a_move (r := .p _)) rfl rfl ?_)
      (refine r_pure (a_pnePN Try.underlying74) rfl rfl ?_)
      (refine r_pure (a_move (r := .p _)) rfl rfl ?_)
      (refine r_pure (a_move (r := .p _)) rfl rfl ?_)
      (refine r_pure a_nilPt rfl rfl ?_)
      (refine r_pure (b_fieldAddrP fi82_0 rfl) rfl rfl ?_)
      (refine r_pure (a_loadNp Try.underlying36 rfl sz36 (by first | omega | (simp; done) | (simp; omega)) (rfl)) rfl rfl ?_)
      (refine r_pure (a_move (r := .p _)) rfl rfl ?_)
      (refine r_callV (fun n => 27 + 1000 * n) (hH) rfl rfl Try.func51 rfl rfl (by first | rfl | simp [AV.noSl, AV.noSlL, AObj.noSl, PV.isV, bs_noSl]) (by first | rfl | simp [AV.noSl, AV.noSlL, AObj.noSl, PV.isV, bs_noSl]) rfl rfl rfl (by first | exact trivial | exact ⟨rfl, trivial⟩ | exact ⟨rfl, rfl, trivial⟩) rfl rfl rfl ?_)
      (refine r_pure a_pickT rfl rfl ?_)
      refine arun_nil ?_
      refine thn_n ?_
      refine awp_cond _ rfl (fun h => ?_) (fun h => ?_)
      · have hpq : p <+: q := by simpa using h
        clear h
        rw [if_pos hpq] at htR
        refine awp_skip (awp_seq (awp_block (awp_seq (awp_seq ?_))))
        refine awp_text (by kernel_rfl) ?_
        (refine r_pure (a_move (r := .p _)) rfl rfl ?_)
        (refine r_pure a_nilPt rfl rfl ?_)
        (refine r_pure (b_fieldAddrP fi82_1 rfl) rfl rfl ?_)
        (refine r_pure (a_load1p Try.underlying9 rfl (by first | rfl | assumption | ((try simp only [List.getElem?_drop, List.getElem?_take, Int.toNat_natCast, Nat.mul_one, Nat.add_zero, Nat.zero_add]); first | assumption | rfl))) rfl rfl ?_)
        (refine r_pure a_sneq rfl rfl ?_)
        refine arun_nil ?_
        refine thn_n ?_
        refine awp_join2 (St.of [(1, .p (.v (.int .u32 (addrK q)))), (7, .p (.v (.string (if o ≠ noOwn then o else acc)))), (8, .ref 8 0), (9, .p (.pt [.v (.int .u32 (addrK p)), .v (.int .i64 p.length), .v (.string o), trP tl, trP tr]))] [(8, .box 36 [.p (.v (.int .u32 (addrK q))), .p (.v (.int .i64 32))])]) ?_ ?_
        · refine awp_cond _ rfl (fun h => ?_) (fun h => ?_)
          · have ho : o ≠ noOwn := by simpa using h
            rw [if_pos ho]
            skip
            refine awp_text (by kernel_rfl) ?_
            (refine r_pure (a_move (r := .p _)) rfl rfl ?_)
            (refine r_pure a_nilPt rfl rfl ?_)
            (refine r_pure (b_fieldAddrP fi82_1 rfl) rfl rfl ?_)
            (refine r_pure (a_load1p Try.underlying9 rfl (by first | rfl | assumption | ((try simp only [List.getElem?_drop, List.getElem?_take, Int.toNat_natCast, Nat.mul_one, Nat.add_zero, Nat.zero_add]); first | assumption | rfl))) rfl rfl ?_)
            (refine r_pure (a_assign (r := .p _)) rfl rfl ?_)
            refine arun_nil ?_
            refine thn_n ?_
            exact re_of id _ _ (by repeat (first | exact trivial | refine ⟨⟨rfl, rfl⟩, ?_⟩)) (by repeat (first | exact trivial | refine ⟨⟨rfl, rfl⟩, ?_⟩)) rfl
          · have ho : ¬ o ≠ noOwn := by simpa using h
            rw [if_neg ho]
            refine awp_skip (thn_n ?_)
            exact re_of id _ _ (by repeat (first | exact trivial | refine ⟨⟨rfl, rfl⟩, ?_⟩)) (by repeat (first | exact trivial | refine ⟨⟨rfl, rfl⟩, ?_⟩)) rfl
        generalize (if o ≠ noOwn then o else acc) = acc' at htR ⊢
        refine awp_seq ?_
        refine awp_draw 4 (by kernel_rfl) ?_
        (refine r_pure (a_move (r := .p _)) rfl rfl ?_)
        (refine r_pure a_nilPt rfl rfl ?_)
        (refine r_pure (b_fieldAddrP fi82_0 rfl) rfl rfl ?_)
        (refine r_pure (a_loadNp Try.underlying36 rfl sz36 (by first | omega | (simp; done) | (simp; omega)) (rfl)) rfl rfl ?_)
        (refine r_run (a_loadN Try.underlying36 rfl sz36 (by first | exact Nat.le_of_ble_eq_true rfl | omega | (simp only [AV.cells, List.length_map]; omega)) (by first | exact take_all (by first | assumption | exact Nat.eq_of_beq_eq_true rfl | (simp only [AV.cells, List.length_map]; first | assumption | omega)) | (simp only [List.take_succ_cons, List.take_zero, List.drop_succ_cons, List.drop_zero]; rfl) | rfl)) rfl rfl ⟨rfl, trivial⟩ ?_)
        (refine r_pure (a_steql Try.underlying36 rfl rfl (by kernel_rfl) (by kernel_rfl) (by kernel_rfl)) rfl rfl ?_)
        refine arun_nil ⟨by kernel_rfl, ?_⟩
        refine thn_n ?_
        refine awp_cond _ rfl (fun h => ?_) (fun h => ?_)
        · have he : p = q := by
            have h' := h
            rw [hEq] at h'
            simpa using h'
          rw [if_pos he] at htR
          subst htR
          (repeat (first | refine awp_seq ?_ | refine awp_block ?_ | refine awp_skip ?_ | refine awp_ret ?_ | refine awp_exit ?_ | refine thn_n ?_ | refine thn_r ?_ | refine thn_x ?_ | refine inb_n ?_ | refine inb_r ?_ | refine inb_x ?_ | refine inb_y rfl ?_))
          exact re_of0 _ (by repeat (first | exact trivial | refine ⟨⟨rfl, rfl⟩, ?_⟩))
        · have he : p ≠ q := by
            have h' := h
            rw [hEq] at h'
            simpa using h'
          clear h
          rw [if_neg he] at htR
          have hx := pre_next hpq (fun e => he e.symm)
          have hlt : p.length < q.length := by have := hx.length_le; simp at this; omega
          have hS := side_s p q hlt (by omega)
          rw [← q32'] at hS
          cases hb : bitAt q p.length with
          | true =>
            rw [show bitN q p.length = 1 by unfold bitN; rw [hb]; rfl] at hS
            rw [hb, if_pos rfl] at htR
            refine awp_skip (inb_n (thn_n ?_))
            refine awp_draw 4 (by kernel_rfl) ?_
            (refine r_pure (a_move (r := .p _)) rfl rfl ?_)
            (refine r_pure (a_move (r := .p _)) rfl rfl ?_)
            (refine r_pure a_nilPt rfl rfl ?_)
            (refine r_pure (b_fieldAddrP fi82_0 rfl) rfl rfl ?_)
            (refine r_pure (a_loadNp Try.underlying36 rfl sz36 (by first | omega | (simp; done) | (simp; omega)) (rfl)) rfl rfl ?_)
            (refine r_run (a_loadN Try.underlying36 rfl sz36 (by first | exact Nat.le_of_ble_eq_true rfl | omega | (simp only [AV.cells, List.length_map]; omega)) (by first | exact take_all (by first | assumption | exact Nat.eq_of_beq_eq_true rfl | (simp only [AV.cells, List.length_map]; first | assumption | omega)) | (simp only [List.take_succ_cons, List.take_zero, List.drop_succ_cons, List.drop_zero]; rfl) | rfl)) rfl rfl ⟨rfl, trivial⟩ ?_)
            (refine r_callV (fun n => 35 + 1000 * n) (hS) rfl rfl Try.func52 rfl rfl (by first | rfl | simp [AV.noSl, AV.noSlL, AObj.noSl, PV.isV, bs_noSl]) (by first | rfl | simp [AV.noSl, AV.noSlL, AObj.noSl, PV.isV, bs_noSl]) rfl rfl rfl (by first | exact trivial | exact ⟨rfl, trivial⟩ | exact ⟨rfl, rfl, trivial⟩) rfl rfl rfl ?_)
            (refine r_pure a_nilPt rfl rfl ?_)
            (refine r_pure (b_fieldAddrP fi82_2 rfl) rfl rfl ?_)
            (refine r_pure (a_indexAddrAP Try.underlying80 sz74 (by omega) (by omega) rfl) rfl rfl ?_)
            (refine r_pure (a_load1p Try.underlying74 rfl (by first | rfl | assumption | ((try simp only [List.getElem?_drop, List.getElem?_take, Int.toNat_natCast, Nat.mul_one, Nat.add_zero, Nat.zero_add]); first | assumption | rfl))) rfl rfl ?_)
            (refine r_pure (a_assign (r := .p _)) rfl rfl ?_)
            refine arun_nil ⟨by kernel_rfl, ?_⟩
            refine thn_n ?_
            refine ⟨m - 1, by omega, _, re_of id _ _ (by repeat (first | exact trivial | refine ⟨⟨rfl, rfl⟩, ?_⟩)) (by repeat (first | exact trivial | refine ⟨⟨rfl, rfl⟩, ?_⟩)) rfl, tr, acc', by omega, hts.2.2, htR, rfl⟩
          | false =>
            rw [show bitN q p.length = 0 by unfold bitN; rw [hb]; rfl] at hS
            rw [hb, if_neg (by simp)] at htR
            refine awp_skip (inb_n (thn_n ?_))
            refine awp_draw 4 (by kernel_rfl) ?_
            (refine r_pure (a_move (r := .p _)) rfl rfl ?_)
            (refine r_pure (a_move (r := .p _)) rfl rfl ?_)
            (refine r_pure a_nilPt rfl rfl ?_)
            (refine r_pure (b_fieldAddrP fi82_0 rfl) rfl rfl ?_)
            (refine r_pure (a_loadNp Try.underlying36 rfl sz36 (by first | omega | (simp; done) | (simp; omega)) (rfl)) rfl rfl ?_)
            (refine r_run (a_loadN Try.underlying36 rfl sz36 (by first | exact Nat.le_of_ble_eq_true rfl | omega | (simp only [AV.cells, List.length_map]; omega)) (by first | exact take_all (by first | assumption | exact Nat.eq_of_beq_eq_true rfl | (simp only [AV.cells, List.length_map]; first | assumption | omega)) | (simp only [List.take_succ_cons, List.take_zero, List.drop_succ_cons, List.drop_zero]; rfl) | rfl)) rfl rfl ⟨rfl, trivial⟩ ?_)
            (refine r_callV (fun n => 35 + 1000 * n) (hS) rfl rfl Try.func52 rfl rfl (by first | rfl | simp [AV.noSl, AV.noSlL, AObj.noSl, PV.isV, bs_noSl]) (by first | rfl | simp [AV.noSl, AV.noSlL, AObj.noSl, PV.isV, bs_noSl]) rfl rfl rfl (by first | exact trivial | exact ⟨rfl, trivial⟩ | exact ⟨rfl, rfl, trivial⟩) rfl rfl rfl ?_)
            (refine r_pure a_nilPt rfl rfl ?_)
            (refine r_pure (b_fieldAddrP fi82_2 rfl) rfl rfl ?_)
            (refine r_pure (a_indexAddrAP Try.underlying80 sz74 (by omega) (by omega) rfl) rfl rfl ?_)
            (refine r_pure (a_load1p Try.underlying74 rfl (by first | rfl | assumption | ((try simp only [List.getElem?_drop, List.getElem?_take, Int.toNat_natCast, Nat.mul_one, Nat.add_zero, Nat.zero_add]); first | assumption | rfl))) rfl rfl ?_)
            (refine r_pure (a_assign (r := .p _)) rfl rfl ?_)
            refine arun_nil ⟨by kernel_rfl, ?_⟩
            refine thn_n ?_
            refine ⟨m - 1, by omega, _, re_of id _ _ (by repeat (first | exact trivial | refine ⟨⟨rfl, rfl⟩, ?_⟩)) (by repeat (first | exact trivial | refine ⟨⟨rfl, rfl⟩, ?_⟩)) rfl, tl, acc', by omega, hts.2.1, htR, rfl⟩
      · have hpq : ¬ p <+: q := by simpa using h
        clear h
        rw [if_neg hpq] at htR
        subst htR
        (repeat (first | refine awp_seq ?_ | refine awp_block ?_ | refine awp_skip ?_ | refine awp_ret ?_ | refine awp_exit ?_ | refine thn_n ?_ | refine thn_r ?_ | refine thn_x ?_ | refine inb_n ?_ | refine inb_r ?_ | refine inb_x ?_ | refine inb_y rfl ?_))
        exact re_of0 _ (by repeat (first | exact trivial | refine ⟨⟨rfl, rfl⟩, ?_⟩))
  refine awp_seq (awp_seq ?_)
  refine awp_text (by kernel_rfl) ?_
  (refine r_pure (a_move (r := .p _)) rfl rfl ?_)
  (refine r_pure a_seql rfl rfl ?_)
  refine arun_nil ?_
  refine thn_n ?_
  refine awp_cond _ rfl (fun h => ?_) (fun h => ?_)
  · have hRn : R = noOwn := by simpa using h
    rw [if_pos hRn]
    refine awp_seq ?_
    refine awp_text (by kernel_rfl) ?_
    (refine r_pure (a_assign (r := .p _)) rfl rfl ?_)
    (refine r_pure (a_assign (r := .p _)) rfl rfl ?_)
    refine arun_nil ?_
    refine awp_ret (thn_r ?_)
    refine ⟨(by first | exact .inl rfl | exact .inr rfl), _, (fun o => o), (.tmp _ _ _ _ rfl (.tmp _ _ _ _ rfl .nil)), ?_, rfl, ?_, rfl⟩
    · exact rfl
    · exact trivial
  · have hRn : R ≠ noOwn := by simpa using h
    rw [if_neg hRn]
    refine awp_skip (awp_seq ?_)
    refine awp_text (by kernel_rfl) ?_
    (refine r_pure (a_move (r := .p _)) rfl rfl ?_)
    (refine r_pure (a_assign (r := .p _)) rfl rfl ?_)
    (refine r_pure (a_assign (r := .p _)) rfl rfl ?_)
    refine arun_nil ?_
    refine awp_ret ?_
    refine ⟨(by first | exact .inl rfl | exact .inr rfl), _, (fun o => o), (.tmp _ _ _ _ rfl (.tmp _ _ _ _ rfl .nil)), ?_, rfl, ?_, rfl⟩
    · exact rfl
    · exact trivial

set_option maxHeartbeats 2000000 in
theorem all_s (l : List ND) (hok : ∀ x ∈ l, x.OK) (hz : l.length * 40 ≤ 140737488351232) : Fn Try.prog 17 [.p (ndsV l)] (nRes (trieE l)) (nNew (trieE l) (ownedL l)) := by
  have hC := tcheck_s l hok (by omega)
  by_cases h1 : trieE l ≠ 0
  · obtain ⟨e1, e2⟩ := nRes_bad h1 (ownedL l)
    rw [e1, e2]
    generalize trieE l = e at *
    refine fn_intro Try.func17 rfl (Nat.le_of_ble_eq_true rfl) fun w0 A => ?_
    refine awp_seq ?_
    refine awp_text (by kernel_rfl) ?_
    (refine r_pure (a_assign (r := .p _)) rfl rfl ?_)
    (refine r_pure (a_assign (r := .p _)) rfl rfl ?_)
    refine arun_nil ?_
    refine awp_seq (awp_seq ?_)
    refine awp_text (by kernel_rfl) ?_
    (refine r_pure (a_move (r := .p _)) rfl rfl ?_)
    (refine r_callV (fun n => 9 + 1000 * n) (hC) rfl rfl Try.func14 rfl rfl (by first | rfl | simp [AV.noSl, AV.noSlL, AObj.noSl, PV.isV, bs_noSl]) (by first | rfl | simp [AV.noSl, AV.noSlL, AObj.noSl, PV.isV, bs_noSl]) rfl rfl rfl (by first | exact trivial | exact ⟨rfl, trivial⟩ | exact ⟨rfl, rfl, trivial⟩) rfl rfl rfl ?_)
    (refine r_pure (a_assign (r := .p _)) rfl rfl ?_)
    refine arun_nil ?_
    refine awp_seq ?_
    refine awp_text (by kernel_rfl) ?_
    (refine r_pure (a_move (r := .p _)) rfl rfl ?_)
    (refine r_pure a_neq rfl rfl ?_)
    refine arun_nil ?_
    refine thn_n ?_
    refine awp_cond _ rfl (fun h => ?_) (fun h => ?_)
    · refine awp_seq ?_
      refine awp_text (by kernel_rfl) ?_
      (refine r_pure (a_move (r := .p _)) rfl rfl ?_)
      (refine r_pure (a_assign (r := .p _)) rfl rfl ?_)
      (refine r_pure (a_assign (r := .p _)) rfl rfl ?_)
      refine arun_nil ?_
      refine awp_ret (thn_r ?_)
      refine ⟨(by first | exact .inl rfl | exact .inr rfl), _, (fun o => o), (.tmp _ _ _ _ rfl (.tmp _ _ _ _ rfl .nil)), ?_, rfl, ?_, rfl⟩
      · exact rfl
      · exact trivial
    · exact absurd (by simpa using h) h1
  replace h1 : trieE l = 0 := Decidable.not_not.1 h1
  rw [h1] at hC ⊢
  obtain ⟨e1, e2⟩ := nRes_good (ownedL l)
  rw [e1, e2]
  clear e1 e2
  refine fn_intro Try.func17 rfl (Nat.le_of_ble_eq_true rfl) fun w0 A => ?_
  refine awp_seq ?_
  refine awp_text (by kernel_rfl) ?_
  (refine r_pure (a_assign (r := .p _)) rfl rfl ?_)
  (refine r_pure (a_assign (r := .p _)) rfl rfl ?_)
  refine arun_nil ?_
  refine awp_seq (awp_seq ?_)
  refine awp_text (by kernel_rfl) ?_
  (refine r_pure (a_move (r := .p _)) rfl rfl ?_)
  (refine r_callV (fun n => 9 + 1000 * n) (hC) rfl rfl Try.func14 rfl rfl (by first | rfl | simp [AV.noSl, AV.noSlL, AObj.noSl, PV.isV, bs_noSl]) (by first | rfl | simp [AV.noSl, AV.noSlL, AObj.noSl, PV.isV, bs_noSl]) rfl rfl rfl (by first | exact trivial | exact ⟨rfl, trivial⟩ | exact ⟨rfl, rfl, trivial⟩) rfl rfl rfl ?_)
  (refine r_pure (a_assign (r := .p _)) rfl rfl ?_)
  refine arun_nil ?_
  refine awp_seq ?_
  refine awp_text (by kernel_rfl) ?_
  (refine r_pure (a_move (r := .p _)) rfl rfl ?_)
  (refine r_pure a_neqT rfl rfl ?_)
  refine arun_nil ?_
  refine thn_n ?_
  refine awp_cond _ rfl (fun h => ?_) (fun h => ?_)
  · cases h
  refine awp_skip (awp_seq ?_)
  refine awp_text (by kernel_rfl) ?_
  (refine r_pure (a_assign (r := .p _)) rfl rfl ?_)
  refine arun_nil ?_
  refine thn_n (awp_re (re_nil 5 5 72 4 rfl rfl) ?_)
  refine awp_seq (awp_seq ?_)
  refine awp_text (by kernel_rfl) ?_
  (refine r_pure (a_move (r := .p _)) rfl rfl ?_)
  (refine r_pure (a_lenS Try.underlying22) rfl rfl ?_)
  (refine r_pure (a_move (r := .p _)) rfl rfl ?_)
  refine arun_nil ?_
  refine awp_block ?_
  refine awp_loopR (fun m st => ∃ i : Nat, m + i = l.length ∧ st = St.of [(5, .row 5), (13, .p (ndsV l)), (14, .p (.v (.int .i64 l.length))), (15, .p (.v (.int .i64 i)))] [(5, .row 72 4 (ownedL (l.take i)).length (nds (ownedL (l.take i))))]) l.length ?_ ?_
  · refine ⟨_, re_of id _ _ (by repeat (first | exact trivial | refine ⟨⟨rfl, rfl⟩, ?_⟩)) (by repeat (first | exact trivial | refine ⟨⟨rfl, rfl⟩, ?_⟩)) rfl, 0, by omega, rfl⟩
  rintro m st ⟨i, hi, rfl⟩
  refine awp_seq ?_
  refine awp_text (by kernel_rfl) ?_
  (refine r_pure a_lss rfl rfl ?_)
  refine arun_nil ?_
  refine awp_seq ?_
  refine awp_cond _ rfl (fun h => ?_) (fun h => ?_)
  · have hlt : i < l.length := by simp at h; omega
    clear h
    obtain ⟨x, hx⟩ : ∃ x, l[i]? = some x := ⟨l[i], List.getElem?_eq_getElem hlt⟩
    have hld := nds_at l i x hx
    have hln := nds_len l
    have hnx := ownedL_take hx
    have hb := ownedL_len (l.take i)
    have hb2 : (l.take i).length = i := by rw [List.length_take]; omega
    (repeat (first | refine awp_seq ?_ | refine awp_block ?_ | refine awp_skip ?_ | refine awp_ret ?_ | refine awp_exit ?_ | refine thn_n ?_ | refine thn_r ?_ | refine thn_x ?_ | refine inb_n ?_ | refine inb_r ?_ | refine inb_x ?_ | refine inb_y rfl ?_))
    refine awp_text (by kernel_rfl) ?_
    (first | refine r_pure (a_indexAddrS Try.underlying22 sz72 (by omega) (by omega) rfl) rfl rfl ?_ | refine r_run (a_indexAddrR Try.underlying22 sz72 (by omega) (by omega) (by first | (simp only [Int.toNat_natCast, Nat.mul_one, Nat.zero_add]; rfl) | rfl)) rfl rfl ⟨rfl, trivial⟩ ?_ | refine r_pure (a_indexAddrV Try.underlying22 sz72 (by omega) (by omega) (by first | (simp only [Int.toNat_natCast, Nat.mul_one, Nat.zero_add]; rfl) | rfl)) rfl rfl ?_)
    (first | refine r_run (a_loadN Try.underlying72 rfl sz72 (by first | exact Nat.le_of_ble_eq_true rfl | omega | (simp only [AV.cells, List.length_map]; omega)) (by first | exact take_all (by first | assumption | exact Nat.eq_of_beq_eq_true rfl | (simp only [AV.cells, List.length_map]; first | assumption | omega)) | (simp only [List.take_succ_cons, List.take_zero, List.drop_succ_cons, List.drop_zero]; rfl) | rfl)) rfl rfl ⟨rfl, trivial⟩ ?_ | refine r_run (a_loadNr Try.underlying72 rfl sz72 (by omega) ((show _ = x.pv from hld))) rfl rfl ⟨rfl, trivial⟩ ?_ | refine r_pure (a_loadNp Try.underlying72 rfl sz72 (by rw [List.length_drop, hln]; first | omega | (simp only [Int.toNat_natCast]; omega)) ((show _ = x.pv from hld))) rfl rfl ?_)
    (refine r_run (a_alloc 7 zr72 rfl) rfl rfl ⟨rfl, trivial⟩ ?_)
    (first | refine r_run (a_storeAll (Y := .agg _) sz72 rfl (by first | exact Nat.eq_of_beq_eq_true rfl | (simp only [AV.cells, List.length_map]; first | assumption | omega)) (Nat.eq_of_beq_eq_true rfl)) rfl rfl ⟨rfl, trivial⟩ ?_ | refine r_run (a_store (Y := .agg _) sz72 rfl (by first | exact Nat.eq_of_beq_eq_true rfl | (simp only [AV.cells, List.length_map]; first | assumption | omega)) (by first | exact Nat.le_of_ble_eq_true rfl | omega | (simp only [AV.cells, List.length_map]; omega)) (by first | (simp only [setR, AV.cells, List.take_succ_cons, List.take_zero, List.drop_succ_cons, List.drop_zero, List.drop_nil, List.take_nil, List.nil_append, List.cons_append, List.append_nil, List.length_cons, List.length_nil, Nat.reduceAdd, Nat.zero_add, Nat.add_zero]; rfl) | rfl)) rfl rfl ⟨rfl, trivial⟩ ?_ | refine r_run (a_storeR (Y := .agg _) sz72 rfl rfl (by first | rfl | omega) (by first | omega | (simp; done) | (simp; omega)) rfl) rfl rfl ⟨rfl, trivial⟩ ?_)
    refine arun_nil ?_
    (repeat (first | refine awp_seq ?_ | refine awp_block ?_ | refine awp_skip ?_ | refine awp_ret ?_ | refine awp_exit ?_ | refine thn_n ?_ | refine thn_r ?_ | refine thn_x ?_ | refine inb_n ?_ | refine inb_r ?_ | refine inb_x ?_ | refine inb_y rfl ?_))
    refine awp_text (by kernel_rfl) ?_
    (first | refine r_pure (b_fieldAddr fi72_1 rfl) rfl rfl ?_ | refine r_pure (b_fieldAddrP fi72_1 rfl) rfl rfl ?_)
    (first | refine r_run (a_load1 Try.underlying9 rfl (by first | rfl | assumption)) rfl rfl ⟨rfl, trivial⟩ ?_ | refine r_run (a_load1r Try.underlying9 rfl (by first | rfl | assumption | ((try simp only [List.getElem?_drop, List.getElem?_take, Int.toNat_natCast, Nat.mul_one, Nat.add_zero, Nat.zero_add]); first | assumption | rfl))) rfl rfl ⟨rfl, trivial⟩ ?_ | refine r_pure (a_load1p Try.underlying9 rfl (by first | rfl | assumption | ((try simp only [List.getElem?_drop, List.getElem?_take, Int.toNat_natCast, Nat.mul_one, Nat.add_zero, Nat.zero_add]); first | assumption | rfl))) rfl rfl ?_)
    (first | refine r_pure a_sneqT rfl rfl ?_ | refine r_pure a_sneq rfl rfl ?_)
    refine arun_nil ?_
    (repeat (first | refine awp_seq ?_ | refine awp_block ?_ | refine awp_skip ?_ | refine awp_ret ?_ | refine awp_exit ?_ | refine thn_n ?_ | refine thn_r ?_ | refine thn_x ?_ | refine inb_n ?_ | refine inb_r ?_ | refine inb_x ?_ | refine inb_y rfl ?_))
    refine awp_cond _ rfl (fun h => ?_) (fun h => ?_)
    · have hne : x.o ≠ noOwn := by simpa using h
      rw [if_pos hne] at hnx
      have hl2 : (ownedL (l.take i)).length + 1 = (ownedL (l.take (i + 1))).length := by rw [hnx]; simp
      have happ : nds (ownedL (l.take i)) ++ [.v (.int .u32 x.a), .v (.int .i64 x.n), .v (.string x.o), .v (.int .i64 1)] = nds (ownedL (l.take (i + 1))) := by rw [hnx, nds_app]; rfl
      (repeat (first | refine awp_seq ?_ | refine awp_block ?_ | refine awp_skip ?_ | refine awp_ret ?_ | refine awp_exit ?_ | refine thn_n ?_ | refine thn_r ?_ | refine thn_x ?_ | refine inb_n ?_ | refine inb_r ?_ | refine inb_x ?_ | refine inb_y rfl ?_))
      refine awp_text (by kernel_rfl) ?_
      (first | refine r_pure (a_move (r := .p _)) rfl rfl ?_ | refine r_pure (a_move (r := .row _)) rfl rfl ?_ | refine r_pure (a_move (r := .ref _ _)) rfl rfl ?_ | refine r_pure (a_move (r := .agg _)) rfl rfl ?_ | refine r_pure (a_move (r := .psl _ _ _ _)) rfl rfl ?_ | refine r_pure (a_move (r := .ptr _)) rfl rfl ?_ | refine r_pure (a_move (r := .tup _)) rfl rfl ?_ | refine r_pure (a_move (r := .fn _ _)) rfl rfl ?_ | refine r_pure (a_move (r := .mb _ _)) rfl rfl ?_ | refine r_pure (a_move (r := .mp _)) rfl rfl ?_ | refine r_pure (a_move (r := .sat _)) rfl rfl ?_ | refine r_pure (a_move (r := .any)) rfl rfl ?_)
      (first | refine r_pure (b_fieldAddr fi72_0 rfl) rfl rfl ?_ | refine r_pure (b_fieldAddrP fi72_0 rfl) rfl rfl ?_)
      (first | refine r_run (a_loadN Try.underlying36 rfl sz36 (by first | exact Nat.le_of_ble_eq_true rfl | omega | (simp only [AV.cells, List.length_map]; omega)) (by first | exact take_all (by first | assumption | exact Nat.eq_of_beq_eq_true rfl | (simp only [AV.cells, List.length_map]; first | assumption | omega)) | (simp only [List.take_succ_cons, List.take_zero, List.drop_succ_cons, List.drop_zero]; rfl) | rfl)) rfl rfl ⟨rfl, trivial⟩ ?_ | refine r_run (a_loadNr Try.underlying36 rfl sz36 (by omega) (rfl)) rfl rfl ⟨rfl, trivial⟩ ?_ | refine r_pure (a_loadNp Try.underlying36 rfl sz36 (by first | omega | (simp; done) | (simp; omega)) (rfl)) rfl rfl ?_)
      (first | refine r_pure (b_fieldAddr fi72_1 rfl) rfl rfl ?_ | refine r_pure (b_fieldAddrP fi72_1 rfl) rfl rfl ?_)
      (first | refine r_run (a_load1 Try.underlying9 rfl (by first | rfl | assumption)) rfl rfl ⟨rfl, trivial⟩ ?_ | refine r_run (a_load1r Try.underlying9 rfl (by first | rfl | assumption | ((try simp only [List.getElem?_drop, List.getElem?_take, Int.toNat_natCast, Nat.mul_one, Nat.add_zero, Nat.zero_add]); first | assumption | rfl))) rfl rfl ⟨rfl, trivial⟩ ?_ | refine r_pure (a_load1p Try.underlying9 rfl (by first | rfl | assumption | ((try simp only [List.getElem?_drop, List.getElem?_take, Int.toNat_natCast, Nat.mul_one, Nat.add_zero, Nat.zero_add]); first | assumption | rfl))) rfl rfl ?_)
      (refine r_pure (b_build pl72 zr72 rfl rfl) rfl rfl ?_)
      (refine r_run (xs := [.agg [.p (.v (.int .u32 x.a)), .p (.v (.int .i64 x.n)), .p (.v (.string x.o)), .p (.v (.int .i64 1))]]) (a_buildSlice (es := [.p (.v (.int .u32 x.a)), .p (.v (.int .i64 x.n)), .p (.v (.string x.o)), .p (.v (.int .i64 1))]) (cs := [.v (.int .u32 x.a), .v (.int .i64 x.n), .v (.string x.o), .v (.int .i64 1)]) 28 Try.underlying22 sz72 zc72 (Nat.le_of_ble_eq_true rfl) (Nat.le_of_ble_eq_true rfl) rfl (by kernel_rfl) (by kernel_rfl) (by kernel_rfl) (Nat.le_of_ble_eq_true rfl)) (by first | rfl | kernel_rfl) rfl ⟨rfl, trivial⟩ ?_)
      (first | refine r_run (a_append 29 Try.underlying22 eo72 (src_row) (by simp only [maxLen]; omega) (by omega) hl2 happ) rfl rfl ⟨rfl, rfl, rfl, trivial⟩ ?_ | refine r_run (a_appendNil 29 Try.underlying22 eo72 (src_row) (by simp only [maxLen]; omega) (by omega)) rfl rfl ⟨rfl, rfl, trivial⟩ ?_ | refine r_run (a_append 29 Try.underlying22 eo72 (src_sl) (by simp only [maxLen]; omega) (by omega) hl2 happ) rfl rfl ⟨rfl, rfl, trivial⟩ ?_ | refine r_run (a_appendNil 29 Try.underlying22 eo72 (src_sl) (by simp only [maxLen]; omega) (by omega)) rfl rfl ⟨rfl, trivial⟩ ?_ | refine r_run (a_append 29 Try.underlying22 eo72 (src_psl (by omega) rfl) (by simp only [maxLen]; omega) (by omega) hl2 happ) rfl rfl ⟨rfl, rfl, rfl, trivial⟩ ?_ | refine r_run (a_appendNil 29 Try.underlying22 eo72 (src_psl (by omega) rfl) (by simp only [maxLen]; omega) (by omega)) rfl rfl ⟨rfl, rfl, trivial⟩ ?_ | refine r_run (a_append 29 Try.underlying22 eo72 (src_box rfl (Nat.le_of_ble_eq_true rfl) rfl) (by simp only [maxLen]; omega) (by omega) hl2 happ) rfl rfl ⟨rfl, rfl, rfl, trivial⟩ ?_ | refine r_run (a_appendNil 29 Try.underlying22 eo72 (src_box rfl (Nat.le_of_ble_eq_true rfl) rfl) (by simp only [maxLen]; omega) (by omega)) rfl rfl ⟨rfl, rfl, trivial⟩ ?_ | refine r_run (a_append 29 Try.underlying22 eo72 (src_nil (size := 4)) (by simp only [maxLen]; omega) (by omega) hl2 happ) rfl rfl ⟨rfl, rfl, trivial⟩ ?_ | refine r_run (a_appendNil 29 Try.underlying22 eo72 (src_nil (size := 4)) (by simp only [maxLen]; omega) (by omega)) rfl rfl ⟨rfl, trivial⟩ ?_)
      (first | refine r_pure (a_assign (r := .p _)) rfl rfl ?_ | refine r_pure (a_assign (r := .row _)) rfl rfl ?_ | refine r_pure (a_assign (r := .ref _ _)) rfl rfl ?_ | refine r_pure (a_assign (r := .agg _)) rfl rfl ?_ | refine r_pure (a_assign (r := .psl _ _ _ _)) rfl rfl ?_ | refine r_pure (a_assign (r := .ptr _)) rfl rfl ?_ | refine r_pure (a_assign (r := .tup _)) rfl rfl ?_ | refine r_pure (a_assign (r := .fn _ _)) rfl rfl ?_ | refine r_pure (a_assign (r := .mb _ _)) rfl rfl ?_ | refine r_pure (a_assign (r := .mp _)) rfl rfl ?_ | refine r_pure (a_assign (r := .sat _)) rfl rfl ?_ | refine r_pure (a_assign (r := .any)) rfl rfl ?_)
      refine arun_nil ?_
      (repeat (first | refine awp_seq ?_ | refine awp_block ?_ | refine awp_skip ?_ | refine awp_ret ?_ | refine awp_exit ?_ | refine thn_n ?_ | refine thn_r ?_ | refine thn_x ?_ | refine inb_n ?_ | refine inb_r ?_ | refine inb_x ?_ | refine inb_y rfl ?_))
      refine awp_text (by kernel_rfl) ?_
      (refine r_pure (a_add (by first | exact IntWalk.i64_in _ (by omega) | rfl)) rfl rfl ?_)
      (first | refine r_pure (a_move (r := .p _)) rfl rfl ?_ | refine r_pure (a_move (r := .row _)) rfl rfl ?_ | refine r_pure (a_move (r := .ref _ _)) rfl rfl ?_ | refine r_pure (a_move (r := .agg _)) rfl rfl ?_ | refine r_pure (a_move (r := .psl _ _ _ _)) rfl rfl ?_ | refine r_pure (a_move (r := .ptr _)) rfl rfl ?_ | refine r_pure (a_move (r := .tup _)) rfl rfl ?_ | refine r_pure (a_move (r := .fn _ _)) rfl rfl ?_ | refine r_pure (a_move (r := .mb _ _)) rfl rfl ?_ | refine r_pure (a_move (r := .mp _)) rfl rfl ?_ | refine r_pure (a_move (r := .sat _)) rfl rfl ?_ | refine r_pure (a_move (r := .any)) rfl rfl ?_)
      refine arun_nil ?_
      (repeat (first | refine awp_seq ?_ | refine awp_block ?_ | refine awp_skip ?_ | refine awp_ret ?_ | refine awp_exit ?_ | refine thn_n ?_ | refine thn_r ?_ | refine thn_x ?_ | refine inb_n ?_ | refine inb_r ?_ | refine inb_x ?_ | refine inb_y rfl ?_))
      refine ⟨m - 1, by omega, _, re_of (fun _ => 29) _ _ (by repeat (first | exact trivial | refine ⟨⟨rfl, rfl⟩, ?_⟩)) (by repeat (first | exact trivial | refine ⟨⟨rfl, rfl⟩, ?_⟩)) rfl, i + 1, by omega, rfl⟩
    · have hne : x.o = noOwn := by simpa using h
      rw [if_neg (by simp [hne]), List.append_nil] at hnx
      rw [← hnx]
      (repeat (first | refine awp_seq ?_ | refine awp_block ?_ | refine awp_skip ?_ | refine awp_ret ?_ | refine awp_exit ?_ | refine thn_n ?_ | refine thn_r ?_ | refine thn_x ?_ | refine inb_n ?_ | refine inb_r ?_ | refine inb_x ?_ | refine inb_y rfl ?_))
      refine awp_text (by kernel_rfl) ?_
      (refine r_pure (a_add (by first | exact IntWalk.i64_in _ (by omega) | rfl)) rfl rfl ?_)
      (first | refine r_pure (a_move (r := .p _)) rfl rfl ?_ | refine r_pure (a_move (r := .row _)) rfl rfl ?_ | refine r_pure (a_move (r := .ref _ _)) rfl rfl ?_ | refine r_pure (a_move (r := .agg _)) rfl rfl ?_ | refine r_pure (a_move (r := .psl _ _ _ _)) rfl rfl ?_ | refine r_pure (a_move (r := .ptr _)) rfl rfl ?_ | refine r_pure (a_move (r := .tup _)) rfl rfl ?_ | refine r_pure (a_move (r := .fn _ _)) rfl rfl ?_ | refine r_pure (a_move (r := .mb _ _)) rfl rfl ?_ | refine r_pure (a_move (r := .mp _)) rfl rfl ?_ | refine r_pure (a_move (r := .sat _)) rfl rfl ?_ | refine r_pure (a_move (r := .any)) rfl rfl ?_)
      refine arun_nil ?_
      (repeat (first | refine awp_seq ?_ | refine awp_block ?_ | refine awp_skip ?_ | refine awp_ret ?_ | refine awp_exit ?_ | refine thn_n ?_ | refine thn_r ?_ | refine thn_x ?_ | refine inb_n ?_ | refine inb_r ?_ | refine inb_x ?_ | refine inb_y rfl ?_))
      refine ⟨m - 1, by omega, _, re_of id _ _ (by repeat (first | exact trivial | refine ⟨⟨rfl, rfl⟩, ?_⟩)) (by repeat (first | exact trivial | refine ⟨⟨rfl, rfl⟩, ?_⟩)) rfl, i + 1, by omega, rfl⟩
  have hge : i = l.length := by simp at h; omega
  clear h
  subst hge
  rw [List.take_length]
  refine awp_exit (awp_seq ?_)
  refine awp_text (by kernel_rfl) ?_
  (refine r_pure (a_move (r := .row _)) rfl rfl ?_)
  (refine r_pure (a_assign (r := .row _)) rfl rfl ?_)
  (refine r_pure (a_assign (r := .p _)) rfl rfl ?_)
  refine arun_nil ?_
  refine awp_ret ?_
  refine ⟨(by first | exact .inl rfl | exact .inr rfl), _, (fun _ => 5), (.tmp _ _ _ _ rfl (.tmp _ _ _ _ rfl .nil)), ?_, rfl, ?_, rfl⟩
  · exact rfl
  · exact ⟨⟨rfl, rfl⟩, trivial⟩
end Go.Proofs.Ytckkmfoccefcfaa
