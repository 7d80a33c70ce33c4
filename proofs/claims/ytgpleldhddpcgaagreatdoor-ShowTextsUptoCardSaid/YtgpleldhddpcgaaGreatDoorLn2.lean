/- line.Join, the reference's LinesText, over data. -/
import Derived.Test.YtgpleldhddpcgaaGreatDoorLn1
import Derived.Test.YtgpleldhddpcgaaGreatDoorJn
namespace Go.Proofs.YtgpleldhddpcgaaGreatDoor
open Go.RowKit Go.Sort
set_option linter.unusedVariables false
set_option linter.unusedSimpArgs false
set_option maxRecDepth 100000


def lnOK (l : List LnP) : Prop := ∀ p ∈ l, p.1.size ≤ 140737488351232 ∧ p.2.size ≤ 140737488351232
def lnE (p : LnP) : Int := lineE p.1 p.2
def EQs : ByteArray := ⟨#[61]⟩
def NLs : ByteArray := ⟨#[10]⟩
def lnT (p : LnP) : ByteArray := p.1 ++ EQs ++ p.2
/-- the first fault of lines -/
def linesE : List LnP → Int
  | [] => 0
  | p :: l => if lnE p ≠ 0 then lnE p else linesE l
def textS (l : List LnP) : ByteArray := joinS (l.map lnT) NLs
def joinE (l : List LnP) : Int := if 60 < l.length then 1 else if linesE l ≠ 0 then linesE l else if 3000 < (textS l).size then 1 else 0
def joinT (l : List LnP) : ByteArray := if joinE l = 0 then textS l else ⟨#[]⟩
theorem linesE_at {l : List LnP} {i : Nat} {p : LnP} (hi : l[i]? = some p) (hf : ∀ q ∈ l.take i, lnE q = 0) (hp : lnE p ≠ 0) : linesE l = lnE p := by
  induction l generalizing i with
  | nil => simp at hi
  | cons q l ih =>
    cases i with
    | zero => simp at hi; subst hi; unfold linesE; rw [if_pos hp]
    | succ i =>
      have h0 := hf q (by simp)
      unfold linesE
      rw [if_neg (by simp [h0])]
      exact ih (by simpa using hi) fun r hr => hf r (by simp [hr])
theorem linesE_ok {l : List LnP} (hf : ∀ q ∈ l, lnE q = 0) : linesE l = 0 := by
  induction l with
  | nil => rfl
  | cons q l ih =>
    unfold linesE
    rw [if_neg (by simp [hf q (by simp)])]
    exact ih fun r hr => hf r (by simp [hr])
theorem lnE_good {p : LnP} (h : lnE p = 0) : p.1.size ≤ 30 ∧ p.2.size ≤ 70 := by
  unfold lnE lineE at h
  by_cases h1 : lineSz p.1 p.2 = true
  · rw [if_pos h1] at h; omega
  · have h2 : lineSz p.1 p.2 = false := by simpa using h1
    unfold lineSz at h2
    simp at h2
    omega
theorem lnT_size {p : LnP} (h : lnE p = 0) : (lnT p).size ≤ 101 := by
  have := lnE_good h
  unfold lnT
  rw [cat_size, cat_size, show EQs.size = 1 from rfl]; omega
theorem textS_le {l : List LnP} (hf : ∀ q ∈ l, lnE q = 0) : (textS l).size ≤ 102 * l.length := by
  have key : ∀ (n : Nat) (l : List LnP), l.length = n → (∀ q ∈ l, lnE q = 0) → (textS l).size ≤ 102 * l.length := by
    intro n
    induction n with
    | zero =>
      intro l hl _
      obtain rfl : l = [] := List.eq_nil_of_length_eq_zero hl
      exact Nat.zero_le _
    | succ n ih =>
      intro l hl hq
      obtain ⟨l', p, rfl⟩ : ∃ l' p, l = l' ++ [p] := ⟨l.dropLast, l.getLast (by intro e; subst e; simp at hl), (List.dropLast_concat_getLast _).symm⟩
      have hp := lnT_size (hq p (by simp))
      have hl' : l'.length = n := by simpa using hl
      by_cases h0 : l' = []
      · subst h0
        unfold textS
        simp only [List.nil_append, List.map_cons, List.map_nil, joinS_one, List.length_singleton]
        omega
      · have := ih l' hl' fun q hq' => hq q (by simp [hq'])
        unfold textS at this ⊢
        rw [List.map_append, List.map_cons, List.map_nil, joinS_push _ _ _ (by simpa using h0), cat_size, cat_size, show NLs.size = 1 from rfl, List.length_append, List.length_singleton]
        omega
  exact key _ l rfl hf
def jV (e : Int) (s : ByteArray) : AV := .tup [.p (.v (.string s)), .p (.v (.int .i64 e))]
theorem joinT_bad {l : List LnP} {e : Int} (h : joinE l = e) (he : e ≠ 0) : jV (joinE l) (joinT l) = .tup [.p (.v (.string ⟨#[]⟩)), .p (.v (.int .i64 e))] := by
  unfold jV joinT; rw [h, if_neg he]
theorem joinT_good {l : List LnP} (h : joinE l = 0) : jV (joinE l) (joinT l) = .tup [.p (.v (.string (textS l))), .p (.v (.int .i64 0))] := by
  unfold jV joinT; rw [h, if_pos rfl]
theorem take_ok {l : List LnP} {i : Nat} {p : LnP} (hi : l[i]? = some p) (hf : ∀ q ∈ l.take i, lnE q = 0) (hp : lnE p = 0) : ∀ q ∈ l.take (i + 1), lnE q = 0 := by
  obtain ⟨h1, h2⟩ := List.getElem?_eq_some_iff.1 hi
  intro q hq
  rw [List.take_succ_eq_append_getElem h1, h2] at hq
  rcases List.mem_append.1 hq with hq | hq
  · exact hf q hq
  · have : q = p := by simpa using hq
    rw [this]; exact hp
theorem take_next {l : List LnP} {i : Nat} {p : LnP} (hi : l[i]? = some p) : l.take (i + 1) = l.take i ++ [p] := by
  obtain ⟨h1, h2⟩ := List.getElem?_eq_some_iff.1 hi
  rw [List.take_succ_eq_append_getElem h1, h2]

set_option maxHeartbeats 4000000 in
theorem ljoin_s (l : List LnP) (ok : lnOK l) (hn : l.length ≤ 140737488351232) : Fn Tryz.prog 67 [.p (.sl l.length 2 (l.flatMap lnC))] (jV (joinE l) (joinT l)) [] := by
  have hE : joinE l = if 60 < l.length then 1 else if linesE l ≠ 0 then linesE l else if 3000 < (textS l).size then 1 else 0 := rfl
  refine fn_intro Tryz.func67 rfl (Nat.le_of_ble_eq_true rfl) fun w0 A => ?_
  refine awp_seq ?_
  refine tx ?_
  refine aP rfl rfl ?_
  refine aP rfl rfl ?_
  refine arun_nil ?_
  refine awp_seq (awp_seq ?_)
  refine tx ?_
  refine mP rfl rfl ?_
  refine r_pure (a_lenS Tryz.underlying109) rfl rfl ?_
  refine r_pure a_gtr rfl rfl ?_
  refine arun_nil ?_
  refine thn_n ?_
  refine awp_cond _ rfl (fun h => ?_) (fun h => ?_)
  · have h1 : 60 < l.length := by simp at h; omega
    rw [if_pos h1] at hE
    rw [joinT_bad hE (by omega)]
    refine awp_seq ?_
    refine tx ?_
    refine aP rfl rfl ?_
    refine aP rfl rfl ?_
    refine arun_nil ?_
    refine awp_ret (thn_r ?_)
    refine fT (fun o => o) (.tmp _ _ _ _ rfl (.tmp _ _ _ _ rfl .nil)) ?_ ?_
    · exact rfl
    · exact trivial
  have h60 : ¬ 60 < l.length := by simp at h; omega
  rw [if_neg h60] at hE
  clear h
  refine awp_skip (awp_seq ?_)
  refine tx ?_
  refine aP rfl rfl ?_
  refine arun_nil ?_
  refine awp_seq (awp_seq ?_)
  refine tx ?_
  refine mP rfl rfl ?_
  refine r_pure (a_lenS Tryz.underlying109) rfl rfl ?_
  refine mP rfl rfl ?_
  refine arun_nil ?_
  refine thn_n (awp_re (re_nil 4 4 9 1 rfl rfl) ?_)
  refine awp_block ?_
  refine awp_loopR (fun m st => ∃ i : Nat, m + i = l.length ∧ (∀ q ∈ l.take i, lnE q = 0) ∧ st = St.of [(4, .row 4), (12, .p (.sl l.length 2 (l.flatMap lnC))), (13, .p (.v (.int .i64 l.length))), (14, .p (.v (.int .i64 i)))] [(4, .row 9 1 i (strs ((l.take i).map lnT)))]) l.length ?_ ?_
  · refine ⟨_, re_of id _ _ ?_ ?_ rfl, 0, by omega, by simp, rfl⟩
    · (repeat (first | exact trivial | (refine ⟨⟨(by first | rfl | (simp; done) | (simp; omega)), rfl⟩, ?_⟩)))
    · exact ⟨⟨rfl, rfl⟩, trivial⟩
  rintro m st ⟨i, hi, hf, rfl⟩
  refine awp_seq ?_
  refine tx ?_
  refine r_pure a_lss rfl rfl ?_
  refine arun_nil ?_
  refine awp_seq ?_
  refine awp_cond _ rfl (fun h => ?_) (fun h => ?_)
  · have hlt : i < l.length := by simp at h; omega
    clear h
    obtain ⟨p, hp⟩ : ∃ p, l[i]? = some p := ⟨l[i], List.getElem?_eq_getElem hlt⟩
    have hch := chunk_at (f := lnC) (k := 2) (fun _ => rfl) hp
    have hle := chunk_le (f := lnC) (k := 2) (fun _ => rfl) hlt
    have hpok := ok p (List.mem_of_getElem? hp)
    have hC := lcheck_s p.1 p.2 hpok.1 hpok.2
    have hbad := @linesE_at l i p hp hf
    have hok := @take_ok l i p hp hf
    have hnx := take_next hp
    have hgd := @lnE_good p
    obtain ⟨k, v⟩ := p
    change Fn Tryz.prog _ _ (.p (.v (.int .i64 (lnE (k, v))))) [] at hC
    generalize hL : l.flatMap lnC = L at *
    generalize lnE (k, v) = e at *
    refine awp_skip (awp_seq (awp_block (awp_seq ?_)))
    refine tx ?_
    refine r_pure (a_indexAddrS Tryz.underlying109 sz111 (by omega) (by omega) rfl) rfl rfl ?_
    refine r_pure (a_loadNp Tryz.underlying111 rfl sz111 (by rw [List.length_drop]; omega) (hch)) rfl rfl ?_
    refine r_run (a_alloc 6 zr111 rfl) rfl rfl ⟨rfl, trivial⟩ ?_
    refine r_run (a_storeAll (Y := .agg (lnA k v)) sz111 rfl rfl (Nat.eq_of_beq_eq_true rfl)) rfl rfl ⟨rfl, trivial⟩ ?_
    refine arun_nil ?_
    refine awp_seq (awp_seq ?_)
    refine tx ?_
    refine lN Tryz.underlying111 rfl sz111 rfl rfl ⟨rfl, trivial⟩ ?_
    refine r_callV (fun n => 19 + 1000 * n) (hC) rfl rfl Tryz.func110 rfl rfl (by first | rfl | simp [AV.noSl, AV.noSlL, AObj.noSl, PV.isV, bs_noSl]) (by first | rfl | simp [AV.noSl, AV.noSlL, AObj.noSl, PV.isV, bs_noSl]) rfl rfl rfl (by first | exact trivial | exact ⟨rfl, trivial⟩ | exact ⟨rfl, rfl, trivial⟩) rfl rfl rfl ?_
    refine aP rfl rfl ?_
    refine arun_nil ?_
    refine awp_seq ?_
    refine tx ?_
    refine mP rfl rfl ?_
    refine r_pure a_neq rfl rfl ?_
    refine arun_nil ?_
    refine thn_n ?_
    refine awp_cond _ rfl (fun h => ?_) (fun h => ?_)
    · have hne : e ≠ 0 := by simpa using h
      rw [hbad hne, if_pos hne] at hE
      rw [joinT_bad hE hne]
      refine awp_seq ?_
      refine tx ?_
      refine mP rfl rfl ?_
      refine aP rfl rfl ?_
      refine aP rfl rfl ?_
      refine arun_nil ?_
      refine awp_ret (thn_r (inb_r (thn_r (thn_r (inb_r (thn_r ?_))))))
      refine fT (fun o => o) (.tmp _ _ _ _ rfl (.tmp _ _ _ _ rfl .nil)) ?_ ?_
      · exact rfl
      · exact trivial
    · have he : e = 0 := by simpa using h
      have hz := hgd he
      simp only at hz
      have hpush : strs ((l.take i).map lnT) ++ [.v (.string (lnT (k, v)))] = strs ((l.take (i + 1)).map lnT) := by rw [strs_push, hnx, List.map_append]; rfl
      refine awp_skip (thn_n ?_)
      refine tx ?_
      refine r_pure (a_move (r := .row _)) rfl rfl ?_
      refine fA fi111_0 rfl rfl ?_
      refine l1 Tryz.underlying9 rfl rfl rfl ⟨rfl, trivial⟩ ?_
      refine r_pure (a_cat (by rw [show (⟨#[61]⟩ : ByteArray).size = 1 from rfl]; omega) rfl) rfl rfl ?_
      refine fA fi111_1 rfl rfl ?_
      refine l1 Tryz.underlying9 rfl rfl rfl ⟨rfl, trivial⟩ ?_
      refine r_pure (a_cat (by rw [cat_size, show EQs.size = 1 from rfl]; simp only; omega) (show _ = lnT (k, v) from rfl)) rfl rfl ?_
      refine r_run (xs := [.p (.v (.string (lnT (k, v))))]) (a_buildSlice (es := [.p (.v (.string (lnT (k, v))))]) (cs := [.v (.string (lnT (k, v)))]) 30 Tryz.underlying153 sz9 zc9 (Nat.le_of_ble_eq_true rfl) (Nat.le_of_ble_eq_true rfl) rfl (by kernel_rfl) (by kernel_rfl) (by kernel_rfl) (Nat.le_of_ble_eq_true rfl)) (by first | rfl | kernel_rfl) rfl ⟨rfl, trivial⟩ ?_
      refine r_run (a_append 31 Tryz.underlying153 eo9 (src_row) (by simp only [maxLen]; omega) (by omega) (show _ = i + 1 by omega) hpush) rfl rfl ⟨rfl, rfl, rfl, trivial⟩ ?_
      refine r_pure (a_assign (r := .row _)) rfl rfl ?_
      refine arun_nil ?_
      refine inb_n (thn_n ?_)
      refine tx ?_
      refine r_pure (a_add (by first | exact IntWalk.i64_in _ (by omega) | rfl)) rfl rfl ?_
      refine mP rfl rfl ?_
      refine arun_nil ?_
      refine thn_n ?_
      refine ⟨m - 1, by omega, _, re_of (fun _ => 31) _ _ ?_ ?_ rfl, i + 1, by omega, hok he, rfl⟩
      · (repeat (first | exact trivial | (refine ⟨⟨(by first | rfl | (simp; done) | (simp; omega)), rfl⟩, ?_⟩)))
      · exact ⟨⟨rfl, rfl⟩, trivial⟩
  have hge : i = l.length := by simp at h; omega
  clear h
  subst hge
  rw [List.take_length] at hf ⊢
  have hle := textS_le hf
  rw [linesE_ok hf, if_neg (by simp)] at hE
  have hJ := join_s (l.map lnT) NLs (by rw [List.length_map]; omega) (by unfold textS at hle; omega)
  rw [List.length_map] at hJ
  refine awp_exit (awp_seq ?_)
  refine tx ?_
  refine r_pure (a_move (r := .row _)) rfl rfl ?_
  refine r_callV (fun n => 34 + 1000 * n) (hJ) rfl rfl Tryz.func111 rfl rfl (by first | rfl | simp [AV.noSl, AV.noSlL, AObj.noSl, PV.isV, bs_noSl]) (by first | rfl | simp [AV.noSl, AV.noSlL, AObj.noSl, PV.isV, bs_noSl]) rfl rfl rfl (by first | exact trivial | exact ⟨rfl, trivial⟩ | exact ⟨rfl, rfl, trivial⟩) rfl rfl rfl ?_
  refine aP rfl rfl ?_
  refine arun_nil ?_
  refine awp_seq (awp_seq ?_)
  refine tx ?_
  refine mP rfl rfl ?_
  refine r_pure (a_lenStr Tryz.underlying9) rfl rfl ?_
  refine r_pure a_gtr rfl rfl ?_
  refine arun_nil ?_
  refine thn_n ?_
  refine awp_cond _ rfl (fun h => ?_) (fun h => ?_)
  · have h1 : 3000 < (textS l).size := by
      have h' : decide (3000 < ((textS l).size : Int)) = true := h
      simp at h'; omega
    rw [if_pos h1] at hE
    rw [joinT_bad hE (by omega)]
    refine awp_seq ?_
    refine tx ?_
    refine aP rfl rfl ?_
    refine aP rfl rfl ?_
    refine arun_nil ?_
    refine awp_ret (thn_r ?_)
    refine fT (fun o => o) (.tmp _ _ _ _ rfl (.tmp _ _ _ _ rfl .nil)) ?_ ?_
    · exact rfl
    · exact trivial
  · have h1 : ¬ 3000 < (textS l).size := by
      have h' : decide (3000 < ((textS l).size : Int)) = false := h
      simp at h'; omega
    rw [if_neg h1] at hE
    rw [joinT_good hE]
    refine awp_skip (awp_seq ?_)
    refine tx ?_
    refine mP rfl rfl ?_
    refine aP rfl rfl ?_
    refine aP rfl rfl ?_
    refine arun_nil ?_
    refine awp_ret ?_
    refine fT (fun o => o) (.tmp _ _ _ _ rfl (.tmp _ _ _ _ rfl .nil)) ?_ ?_
    · exact rfl
    · exact trivial

theorem textS_next {l : List LnP} {i : Nat} {p : LnP} (hi : l[i]? = some p) : textS (l.take (i + 1)) = (if 0 < i then textS (l.take i) ++ NLs else textS (l.take i)) ++ lnT p := by
  rw [take_next hi]
  unfold textS
  rw [List.map_append]
  by_cases h0 : 0 < i
  · have hne : (l.take i).map lnT ≠ [] := by
      intro h
      have := congrArg List.length h
      have h1 := (List.getElem?_eq_some_iff.1 hi).1
      rw [List.length_map, List.length_take, List.length_nil] at this
      omega
    rw [if_pos h0]
    exact joinS_push _ _ _ hne
  · obtain rfl : i = 0 := by omega
    rw [if_neg h0]
    simp only [List.take_zero, List.map_nil, List.nil_append, List.map_cons]
    rw [joinS_one, joinS_nil]
    apply ByteArray.ext
    simp
set_option maxHeartbeats 4000000 in
theorem refLText_s (l : List LnP) (ok : lnOK l) (hn : l.length ≤ 140737488351232) : Fn Tryz.prog 70 [.p (.sl l.length 2 (l.flatMap lnC))] (jV (joinE l) (joinT l)) [] := by
  have hE : joinE l = if 60 < l.length then 1 else if linesE l ≠ 0 then linesE l else if 3000 < (textS l).size then 1 else 0 := rfl
  refine fn_intro Tryz.func70 rfl (Nat.le_of_ble_eq_true rfl) fun w0 A => ?_
  refine awp_seq ?_
  refine tx ?_
  refine aP rfl rfl ?_
  refine aP rfl rfl ?_
  refine arun_nil ?_
  refine awp_seq (awp_seq ?_)
  refine tx ?_
  refine mP rfl rfl ?_
  refine r_pure (a_lenS Tryz.underlying109) rfl rfl ?_
  refine r_pure a_gtr rfl rfl ?_
  refine arun_nil ?_
  refine thn_n ?_
  refine awp_cond _ rfl (fun h => ?_) (fun h => ?_)
  · have h1 : 60 < l.length := by simp at h; omega
    rw [if_pos h1] at hE
    rw [joinT_bad hE (by omega)]
    refine awp_seq ?_
    refine tx ?_
    refine aP rfl rfl ?_
    refine aP rfl rfl ?_
    refine arun_nil ?_
    refine awp_ret (thn_r ?_)
    refine fT (fun o => o) (.tmp _ _ _ _ rfl (.tmp _ _ _ _ rfl .nil)) ?_ ?_
    · exact rfl
    · exact trivial
  have h60 : ¬ 60 < l.length := by simp at h; omega
  rw [if_neg h60] at hE
  clear h
  refine awp_skip (awp_seq ?_)
  refine tx ?_
  refine aP rfl rfl ?_
  refine arun_nil ?_
  refine awp_seq (awp_seq ?_)
  refine tx ?_
  refine mP rfl rfl ?_
  refine r_pure (a_lenS Tryz.underlying109) rfl rfl ?_
  refine mP rfl rfl ?_
  refine arun_nil ?_
  refine awp_block ?_
  refine awp_loopR (fun m st => ∃ i : Nat, m + i = l.length ∧ (∀ q ∈ l.take i, lnE q = 0) ∧ st = St.of [(4, .p (.v (.string (textS (l.take i))))), (11, .p (.sl l.length 2 (l.flatMap lnC))), (12, .p (.v (.int .i64 l.length))), (13, .p (.v (.int .i64 i)))] []) l.length ?_ ?_
  · refine ⟨_, re_of0 _ ?_, 0, by omega, by simp, rfl⟩
    (repeat (first | exact trivial | (refine ⟨⟨(by first | rfl | (simp; done) | (simp; omega)), rfl⟩, ?_⟩)))
  rintro m st ⟨i, hi, hf, rfl⟩
  refine awp_seq ?_
  refine tx ?_
  refine r_pure a_lss rfl rfl ?_
  refine arun_nil ?_
  refine awp_seq ?_
  refine awp_cond _ rfl (fun h => ?_) (fun h => ?_)
  · have hlt : i < l.length := by simp at h; omega
    clear h
    obtain ⟨p, hp⟩ : ∃ p, l[i]? = some p := ⟨l[i], List.getElem?_eq_getElem hlt⟩
    have hch := chunk_at (f := lnC) (k := 2) (fun _ => rfl) hp
    have hle := chunk_le (f := lnC) (k := 2) (fun _ => rfl) hlt
    have hpok := ok p (List.mem_of_getElem? hp)
    have hC := refLFault_s p.1 p.2 hpok.1 hpok.2
    have hbad := @linesE_at l i p hp hf
    have hok := @take_ok l i p hp hf
    have hnx := textS_next hp
    have hgd := @lnE_good p
    have hsz := textS_le hf
    rw [List.length_take] at hsz
    obtain ⟨k, v⟩ := p
    change Fn Tryz.prog _ _ (.p (.v (.int .i64 (lnE (k, v))))) [] at hC
    generalize hL : l.flatMap lnC = L at *
    generalize lnE (k, v) = e at *
    generalize textS (l.take i) = T at *
    refine awp_skip (awp_seq (awp_block (awp_seq ?_)))
    refine tx ?_
    refine mP rfl rfl ?_
    refine r_pure (a_indexAddrS Tryz.underlying109 sz111 (by omega) (by omega) rfl) rfl rfl ?_
    refine r_pure (a_loadNp Tryz.underlying111 rfl sz111 (by rw [List.length_drop]; omega) (hch)) rfl rfl ?_
    refine r_run (a_alloc 6 zr111 rfl) rfl rfl ⟨rfl, trivial⟩ ?_
    refine aP rfl rfl ?_
    refine r_run (a_storeAll (Y := .agg (lnA k v)) sz111 rfl rfl (Nat.eq_of_beq_eq_true rfl)) rfl rfl ⟨rfl, trivial⟩ ?_
    refine arun_nil ?_
    refine awp_seq (awp_seq ?_)
    refine tx ?_
    refine lN Tryz.underlying111 rfl sz111 rfl rfl ⟨rfl, trivial⟩ ?_
    refine r_callV (fun n => 19 + 1000 * n) (hC) rfl rfl Tryz.func116 rfl rfl (by first | rfl | simp [AV.noSl, AV.noSlL, AObj.noSl, PV.isV, bs_noSl]) (by first | rfl | simp [AV.noSl, AV.noSlL, AObj.noSl, PV.isV, bs_noSl]) rfl rfl rfl (by first | exact trivial | exact ⟨rfl, trivial⟩ | exact ⟨rfl, rfl, trivial⟩) rfl rfl rfl ?_
    refine aP rfl rfl ?_
    refine arun_nil ?_
    refine awp_seq ?_
    refine tx ?_
    refine mP rfl rfl ?_
    refine r_pure a_neq rfl rfl ?_
    refine arun_nil ?_
    refine thn_n ?_
    refine awp_cond _ rfl (fun h => ?_) (fun h => ?_)
    · have hne : e ≠ 0 := by simpa using h
      rw [hbad hne, if_pos hne] at hE
      rw [joinT_bad hE hne]
      refine awp_seq ?_
      refine tx ?_
      refine mP rfl rfl ?_
      refine aP rfl rfl ?_
      refine aP rfl rfl ?_
      refine arun_nil ?_
      refine awp_ret (thn_r (inb_r (thn_r (thn_r (inb_r (thn_r ?_))))))
      refine fT (fun o => o) (.tmp _ _ _ _ rfl (.tmp _ _ _ _ rfl .nil)) ?_ ?_
      · exact rfl
      · exact trivial
    have he : e = 0 := by simpa using h
    clear h
    have hz := hgd he
    simp only at hz
    refine awp_skip (awp_seq (awp_seq ?_))
    refine tx ?_
    refine mP rfl rfl ?_
    refine r_pure a_gtr rfl rfl ?_
    refine arun_nil ?_
    refine thn_n ?_
    obtain ⟨T2, hT2, hs2⟩ : ∃ T2, T2 = (if 0 < i then T ++ NLs else T) ∧ T2.size ≤ T.size + 1 := ⟨_, rfl, by split; rw [cat_size]; exact Nat.le_refl _; omega⟩
    rw [← hT2] at hnx
    refine awp_join3 (St.of [(4, .p (.v (.string T2))), (6, .ref 6 0), (11, .p (.sl l.length 2 L)), (12, .p (.v (.int .i64 l.length))), (13, .p (.v (.int .i64 i)))] [(6, .box 111 (lnA k v))]) ?_ (fun st' r => awp_re r ?_)
    · skip
      refine awp_cond _ rfl (fun h => ?_) (fun h => ?_)
      · have h1 : 0 < i := by simp at h; omega
        rw [if_pos h1] at hT2
        rw [hT2]
        skip
        refine tx ?_
        refine mP rfl rfl ?_
        refine r_pure (a_cat (by rw [show (⟨#[10]⟩ : ByteArray).size = 1 from rfl]; omega) rfl) rfl rfl ?_
        refine aP rfl rfl ?_
        refine arun_nil ?_
        refine thn_n ?_
        exact re_of id _ _ (by (repeat (first | exact trivial | (refine ⟨⟨(by first | rfl | (simp; done) | (simp; omega)), rfl⟩, ?_⟩)))) ⟨⟨rfl, rfl⟩, trivial⟩ rfl
      · have h1 : ¬ 0 < i := by simp at h; omega
        rw [if_neg h1] at hT2
        rw [hT2]
        refine awp_skip (thn_n ?_)
        exact re_of id _ _ (by (repeat (first | exact trivial | (refine ⟨⟨(by first | rfl | (simp; done) | (simp; omega)), rfl⟩, ?_⟩)))) ⟨⟨rfl, rfl⟩, trivial⟩ rfl
    clear hT2
    skip
    refine tx ?_
    refine mP rfl rfl ?_
    refine fA fi111_0 rfl rfl ?_
    refine l1 Tryz.underlying9 rfl rfl rfl ⟨rfl, trivial⟩ ?_
    refine r_pure (a_cat (by rw [show (⟨#[61]⟩ : ByteArray).size = 1 from rfl]; omega) rfl) rfl rfl ?_
    refine fA fi111_1 rfl rfl ?_
    refine l1 Tryz.underlying9 rfl rfl rfl ⟨rfl, trivial⟩ ?_
    refine r_pure (a_cat (by rw [cat_size, show EQs.size = 1 from rfl]; simp only; omega) (show _ = lnT (k, v) from rfl)) rfl rfl ?_
    refine r_pure (a_cat (by unfold lnT; rw [cat_size, cat_size, show EQs.size = 1 from rfl]; simp only; omega) hnx.symm) rfl rfl ?_
    refine aP rfl rfl ?_
    refine arun_nil ?_
    refine inb_n (thn_n ?_)
    refine tx ?_
    refine r_pure (a_add (by first | exact IntWalk.i64_in _ (by omega) | rfl)) rfl rfl ?_
    refine mP rfl rfl ?_
    refine arun_nil ?_
    refine thn_n ?_
    refine ⟨m - 1, by omega, _, re_of0 _ ?_, i + 1, by omega, hok he, rfl⟩
    (repeat (first | exact trivial | (refine ⟨⟨(by first | rfl | (simp; done) | (simp; omega)), rfl⟩, ?_⟩)))
  have hge : i = l.length := by simp at h; omega
  clear h
  subst hge
  rw [List.take_length] at hf ⊢
  rw [linesE_ok hf, if_neg (by simp)] at hE
  refine awp_exit (awp_seq (awp_seq ?_))
  refine tx ?_
  refine mP rfl rfl ?_
  refine r_pure (a_lenStr Tryz.underlying9) rfl rfl ?_
  refine r_pure a_gtr rfl rfl ?_
  refine arun_nil ?_
  refine thn_n ?_
  refine awp_cond _ rfl (fun h => ?_) (fun h => ?_)
  · have h1 : 3000 < (textS l).size := by simp at h; omega
    rw [if_pos h1] at hE
    rw [joinT_bad hE (by omega)]
    refine awp_seq ?_
    refine tx ?_
    refine aP rfl rfl ?_
    refine aP rfl rfl ?_
    refine arun_nil ?_
    refine awp_ret (thn_r ?_)
    refine fT (fun o => o) (.tmp _ _ _ _ rfl (.tmp _ _ _ _ rfl .nil)) ?_ ?_
    · exact rfl
    · exact trivial
  · have h1 : ¬ 3000 < (textS l).size := by simp at h; omega
    rw [if_neg h1] at hE
    rw [joinT_good hE]
    refine awp_skip (awp_seq ?_)
    refine tx ?_
    refine mP rfl rfl ?_
    refine aP rfl rfl ?_
    refine aP rfl rfl ?_
    refine arun_nil ?_
    refine awp_ret ?_
    refine fT (fun o => o) (.tmp _ _ _ _ rfl (.tmp _ _ _ _ rfl .nil)) ?_ ?_
    · exact rfl
    · exact trivial

/-! typed lines -/
theorem line_of_ty {n : Nat} {ps : List PV} (h : Ty Tryz.prog (n + 2) 111 ps) : ∃ p : LnP, (p.1.size ≤ 140737488351232 ∧ p.2.size ≤ 140737488351232) ∧ ps = lnC p := by
  obtain ⟨_, rfl, x0, _, rfl, t0, x1, _, rfl, t1, rfl⟩ := ty_struct (ts := [9, 9]) (by kernel_rfl) h
  obtain ⟨a0, rfl, w0⟩ := ty_string Tryz.underlying9 t0
  obtain ⟨a1, rfl, w1⟩ := ty_string Tryz.underlying9 t1
  exact ⟨(a0, a1), ⟨w0, w1⟩, rfl⟩
theorem lines_of_ty {n : Nat} {ps : List PV} (h : Ty Tryz.prog (n + 3) 109 ps) : ∃ l : List LnP, lnOK l ∧ l.length ≤ 140737488351232 ∧ ps = [.sl l.length 2 (l.flatMap lnC)] := by
  obtain ⟨l, h1, h2, h3⟩ := ty_recs (f := lnC) (Q := fun p : LnP => p.1.size ≤ 140737488351232 ∧ p.2.size ≤ 140737488351232) Tryz.underlying109 (sz := 2) (by kernel_rfl) h fun x hx => line_of_ty hx
  refine ⟨l, h3, ?_, h1⟩
  have hb : 1 ≤ Tryz.prog.bytesOf 111 := Nat.le_of_ble_eq_true (by kernel_rfl)
  have : l.length * 1 ≤ l.length * Tryz.prog.bytesOf 111 := Nat.mul_le_mul_left _ hb
  have hr : reachBytes ≤ 140737488351232 := Nat.le_of_ble_eq_true rfl
  omega
end Go.Proofs.YtgpleldhddpcgaaGreatDoor
