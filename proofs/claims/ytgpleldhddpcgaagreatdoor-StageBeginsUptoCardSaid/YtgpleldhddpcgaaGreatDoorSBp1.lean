/- batch.Parse, the reference's BatchOf, over data. -/
import Derived.Test.YtgpleldhddpcgaaGreatDoorSBt7
import Derived.Test.YtgpleldhddpcgaaGreatDoorSLs
namespace Go.Proofs.YtgpleldhddpcgaaGreatDoor
open Go.RowKit Go.Sort
set_option linter.unusedVariables false
set_option linter.unusedSimpArgs false
set_option maxRecDepth 100000
noncomputable def rdE (p : LnP) : Int := if kd p.1 = 0 then 2 else if isL (bc (kd p.1) p.2) p.1 p.2 then 0 else 3
noncomputable def rdS (p : LnP) : SE := if kd p.1 = 0 then SE0 else if isL (bc (kd p.1) p.2) p.1 p.2 then bc (kd p.1) p.2 else SE0
theorem rdR_eq (p : LnP) : rdR p.1 p.2 = rdO (rdS p) (rdE p) := by
  unfold rdR rdS rdE
  split
  · rfl
  · split <;> rfl
/-- the first faulty one -/
def bdA (f : LnP → Int) : List LnP → Nat → Option (Int × Int)
  | [], _ => none
  | t :: l, i => if f t ≠ 0 then some ((i : Int) + 1, f t) else bdA f l (i + 1)
theorem bdA_hit {f : LnP → Int} {t : LnP} : ∀ {l : List LnP} {i k : Nat}, l[i]? = some t → (∀ q ∈ l.take i, f q = 0) → f t ≠ 0 → bdA f l k = some (((k + i : Nat) : Int) + 1, f t)
  | [], i, k, h, _, _ => by simp at h
  | a :: l, 0, k, h, _, ht => by
    simp at h; subst h
    unfold bdA
    rw [if_pos ht]; rfl
  | a :: l, i + 1, k, h, hf, ht => by
    have h0 := hf a (by simp)
    unfold bdA
    rw [if_neg (by simp [h0]), bdA_hit (i := i) (k := k + 1) (by simpa using h) (fun q hq => hf q (by simp [hq])) ht]
    congr 3; omega
theorem bdA_ok {f : LnP → Int} : ∀ {l : List LnP} {k : Nat}, (∀ q ∈ l, f q = 0) → bdA f l k = none
  | [], _, _ => rfl
  | a :: l, k, h => by
    unfold bdA
    rw [if_neg (by simp [h a (by simp)]), bdA_ok fun q hq => h q (by simp [hq])]
theorem takeL_ok {f : LnP → Int} {l : List LnP} {i : Nat} {p : LnP} (hi : l[i]? = some p) (hf : ∀ q ∈ l.take i, f q = 0) (hp : f p = 0) : ∀ q ∈ l.take (i + 1), f q = 0 := by
  obtain ⟨h1, h2⟩ := List.getElem?_eq_some_iff.1 hi
  rw [List.take_succ_eq_append_getElem h1, h2]
  intro q hq
  rcases List.mem_append.1 hq with h | h
  · exact hf q h
  · have : q = p := by simpa using h
    rw [this]; exact hp
theorem takeL_next {l : List LnP} {i : Nat} {p : LnP} (hi : l[i]? = some p) : ((l.take (i + 1)).map rdS).flatMap SE.pv = ((l.take i).map rdS).flatMap SE.pv ++ (rdS p).pv := by
  obtain ⟨h1, h2⟩ := List.getElem?_eq_some_iff.1 hi
  rw [List.take_succ_eq_append_getElem h1, h2, List.map_append, List.flatMap_append]
  simp
noncomputable def bpO (s : ByteArray) : Option (Int × Int) := match spO s with
  | some (n, e) => some (if e = 0 then (0, 0) else (n, e))
  | none => bdA rdE ((spl s 10).map lnOf) 0
def bpN (l : List SE) : Option (Int × Int) → List (Nat × AObj)
  | some _ => []
  | none => [(0, .row 86 5 l.length (l.flatMap SE.pv))]
theorem spO_none {s : ByteArray} (h : spO s = none) : s.size ≤ 3000 ∧ cntB s 10 ≤ 59 := by
  unfold spO at h
  split at h
  · cases h
  split at h
  · cases h
  split at h
  · cases h
  · omega
theorem bp_lines {s : ByteArray} (h : s.size ≤ 3000) : ∀ p ∈ (spl s 10).map lnOf, p.2.size ≤ 3000 := by
  intro p hp
  obtain ⟨t, ht, rfl⟩ := List.mem_map.1 hp
  have h1 := spl_size s 10 t ht
  have h2 := cutZ_size t 61
  show (cutZ t 61).size ≤ 3000
  omega
set_option maxHeartbeats 4000000 in
theorem bparse_s (s : ByteArray) : Fn Tryz.prog 29 [.p (.v (.string s))] (spR (bpO s)) (bpN (((spl s 10).map lnOf).map rdS) (bpO s)) := by
  obtain ⟨o, hO⟩ : ∃ o, bpO s = o := ⟨_, rfl⟩
  rw [hO]
  unfold bpO at hO
  have p1 := lsplit_s s
  have hl0 := @spO_none s
  have hl1 := @bp_lines s
  have hlen : ((spl s 10).map lnOf).length = cntB s 10 + 1 := by rw [List.length_map, spl_len]
  generalize (spl s 10).map lnOf = l at *
  generalize cntB s 10 = N at *
  generalize spO s = sp at *
  cases sp with
  | some x =>
    obtain ⟨n, e⟩ := x
    simp only [spR, spN] at p1
    refine fn_intro Tryz.func29 rfl (Nat.le_of_ble_eq_true rfl) fun w0 A => ?_
    refine awp_seq ?_
    refine tx ?_
    refine aP rfl rfl ?_
    refine aP rfl rfl ?_
    refine aP rfl rfl ?_
    refine arun_nil ?_
    refine awp_seq ?_
    refine tx ?_
    refine mP rfl rfl ?_
    refine r_callV (fun n => 15 + 1000 * n) (p1) rfl rfl Tryz.func71 rfl rfl (by first | rfl | simp [AV.noSl, AV.noSlL, AObj.noSl, PV.isV, bs_noSl]) (by first | rfl | simp [AV.noSl, AV.noSlL, AObj.noSl, PV.isV, bs_noSl]) rfl rfl rfl (by first | exact trivial | exact ⟨rfl, trivial⟩ | exact ⟨rfl, rfl, trivial⟩) rfl rfl rfl ?_
    refine r_pure (a_move (r := .tup _)) rfl rfl ?_
    refine r_pure (a_extract rfl) rfl rfl ?_
    refine r_pure (a_extract rfl) rfl rfl ?_
    refine r_pure (a_extract rfl) rfl rfl ?_
    refine aP rfl rfl ?_
    refine aP rfl rfl ?_
    refine aP rfl rfl ?_
    refine arun_nil ?_
    refine awp_seq (awp_seq ?_)
    refine tx ?_
    refine mP rfl rfl ?_
    refine r_pure a_neq rfl rfl ?_
    refine arun_nil ?_
    refine thn_n ?_
    refine awp_cond _ rfl (fun h => ?_) (fun h => ?_)
    · have h1 : e ≠ 0 := by simpa using h
      dsimp only at hO
      rw [if_neg h1] at hO
      subst hO
      refine awp_seq ?_
      refine tx ?_
      refine mP rfl rfl ?_
      refine mP rfl rfl ?_
      refine aP rfl rfl ?_
      refine aP rfl rfl ?_
      refine aP rfl rfl ?_
      refine arun_nil ?_
      refine awp_ret (thn_r ?_)
      refine fT (fun o => o) (.tmp _ _ _ _ rfl (.tmp _ _ _ _ rfl (.tmp _ _ _ _ rfl .nil))) ?_ ?_
      · exact rfl
      · exact trivial
    have h1 : e = 0 := by simpa using h
    clear h
    subst h1
    dsimp only at hO
    rw [if_pos rfl] at hO
    subst hO
    refine awp_skip (awp_seq ?_)
    refine tx ?_
    refine aP rfl rfl ?_
    refine arun_nil ?_
    refine awp_seq (awp_seq ?_)
    refine tx ?_
    refine mP rfl rfl ?_
    refine r_pure (a_lenNil Tryz.underlying109) rfl rfl ?_
    refine mP rfl rfl ?_
    refine arun_nil ?_
    refine awp_block ?_
    refine awp_loopR (fun m st => st = St.of [(8, .p (.v (.slice none 0 0))), (24, .p (.v (.int .i64 0))), (25, .p (.v (.int .i64 0)))] []) 0 ?_ ?_
    · refine ⟨_, re_of id _ _ ?_ ?_ rfl, rfl⟩
      · (repeat (first | exact trivial | (refine ⟨⟨(by first | rfl | (simp; done) | (simp; omega)), rfl⟩, ?_⟩)))
      · exact trivial
    rintro m st rfl
    refine awp_seq ?_
    refine tx ?_
    refine r_pure a_lss rfl rfl ?_
    refine arun_nil ?_
    refine awp_seq ?_
    refine awp_cond _ rfl (fun h => ?_) (fun h => ?_)
    · cases h
    refine awp_exit (awp_seq ?_)
    refine tx ?_
    refine mP rfl rfl ?_
    refine aP rfl rfl ?_
    refine aP rfl rfl ?_
    refine aP rfl rfl ?_
    refine arun_nil ?_
    refine awp_ret ?_
    refine fT (fun o => o) (.tmp _ _ _ _ rfl (.tmp _ _ _ _ rfl (.tmp _ _ _ _ rfl .nil))) ?_ ?_
    · exact rfl
    · exact trivial
  | none =>
    obtain ⟨hs, hN⟩ := hl0 rfl
    have hl1 := hl1 hs
    simp only [spR, spN] at p1
    dsimp only at hO
    refine fn_intro Tryz.func29 rfl (Nat.le_of_ble_eq_true rfl) fun w0 A => ?_
    refine awp_seq ?_
    refine tx ?_
    refine aP rfl rfl ?_
    refine aP rfl rfl ?_
    refine aP rfl rfl ?_
    refine arun_nil ?_
    refine awp_seq ?_
    refine tx ?_
    refine mP rfl rfl ?_
    refine r_callS (fun _ => 15) (p1) rfl rfl Tryz.func71 rfl rfl (by first | rfl | simp [AV.okInL, AV.okIn, okInL_map]) rfl rfl rfl (by first | exact trivial | exact ⟨rfl, trivial⟩ | exact ⟨rfl, rfl, trivial⟩) rfl rfl rfl ?_
    refine r_pure (a_move (r := .tup _)) rfl rfl ?_
    refine r_pure (a_extract rfl) rfl rfl ?_
    refine r_pure (a_extract rfl) rfl rfl ?_
    refine r_pure (a_extract rfl) rfl rfl ?_
    refine r_pure (a_assign (r := .row _)) rfl rfl ?_
    refine aP rfl rfl ?_
    refine aP rfl rfl ?_
    refine arun_nil ?_
    refine thn_reO (reo_fzR (cs := l.flatMap lnC) 15 rfl) ?_
    refine awp_seq (awp_seq ?_)
    refine tx ?_
    refine mP rfl rfl ?_
    refine r_pure a_neqT rfl rfl ?_
    refine arun_nil ?_
    refine thn_n ?_
    refine awp_cond _ rfl (fun h => ?_) (fun h => ?_)
    · cases h
    refine awp_skip (awp_seq ?_)
    refine tx ?_
    refine aP rfl rfl ?_
    refine arun_nil ?_
    refine thn_n (awp_re (re_nil 8 100 86 5 rfl rfl) ?_)
    refine awp_seq (awp_seq ?_)
    refine tx ?_
    refine mP rfl rfl ?_
    refine r_pure (a_lenS Tryz.underlying109) rfl rfl ?_
    refine mP rfl rfl ?_
    refine arun_nil ?_
    refine awp_block ?_
    refine awp_loopR (fun m st => ∃ i : Nat, m + i = l.length ∧ (∀ q ∈ l.take i, rdE q = 0) ∧ st = St.of [(8, .row 100), (23, .p (.sl l.length 2 (l.flatMap lnC))), (24, .p (.v (.int .i64 l.length))), (25, .p (.v (.int .i64 i)))] [(100, .row 86 5 i (((l.take i).map rdS).flatMap SE.pv))]) l.length ?_ ?_
    · refine ⟨_, re_of id _ _ ?_ ?_ rfl, 0, by omega, by simp, rfl⟩
      · (repeat (first | exact trivial | (refine ⟨⟨(by first | rfl | (simp; done) | (simp; omega)), rfl⟩, ?_⟩)))
      · exact ⟨⟨rfl, rfl⟩, trivial⟩
    rintro m st ⟨i, hi, hf, rfl⟩
    refine awp_seq ?_
    refine tx ?_
    refine r_pure a_lss rfl rfl ?_
    refine arun_nil ?_
    refine awp_seq ?_
    refine awp_cond _ rfl (fun h => ?_) (fun h => ?_)
    · have hlt : i < l.length := by simp at h; omega
      clear h
      obtain ⟨p, hp⟩ : ∃ p, l[i]? = some p := ⟨l[i], List.getElem?_eq_getElem hlt⟩
      have hch := chunk_at (f := lnC) (k := 2) (fun _ => rfl) hp
      have hle := chunk_le (f := lnC) (k := 2) (fun _ => rfl) hlt
      have hpz := hl1 p (List.mem_of_getElem? hp)
      have hbad := @bdA_hit rdE p l i 0 hp hf
      have hok := takeL_ok hp hf
      have hnx := takeL_next hp
      have hC := read_s p.1 p.2 (by omega)
      rw [rdR_eq] at hC
      have hil : (((l.take i).map rdS).flatMap SE.pv).length = i * 5 := by rw [chunk_len (k := 5) (fun _ => rfl), List.length_map, List.length_take, Nat.min_eq_left (by omega)]
      rw [Nat.zero_add] at hbad
      generalize rdE p = e at *
      generalize rdS p = r at *
      generalize ((l.take i).map rdS).flatMap SE.pv = T at *
      generalize hLL : l.flatMap lnC = L at *
      obtain ⟨k, v⟩ := p
      obtain ⟨rk, rt, rn, ra, rb⟩ := r
      change Fn Tryz.prog _ [.agg [.p (.v (.string k)), .p (.v (.string v))]] (.tup [.agg [.p (.v (.int .i64 rk)), .p (.v (.string rt)), .p (.v (.int .i64 rn)), .p (.v (.int .u32 ra)), .p (.v (.int .i64 rb))], .p (.v (.int .i64 e))]) _ at hC
      refine awp_skip (awp_seq (awp_block (awp_seq ?_)))
      refine tx ?_
      refine mP rfl rfl ?_
      refine r_pure (a_indexAddrS Tryz.underlying109 sz111 (by omega) (by omega) rfl) rfl rfl ?_
      refine r_pure (a_loadNp Tryz.underlying111 rfl sz111 (by first | omega | (simp; done) | (simp; omega)) (hch)) rfl rfl ?_
      refine r_run (a_alloc 10 zr111 rfl) rfl rfl ⟨rfl, trivial⟩ ?_
      refine aP rfl rfl ?_
      refine r_run (a_storeAll (Y := .agg [.p (.v (.string k)), .p (.v (.string v))]) sz111 rfl rfl (Nat.eq_of_beq_eq_true rfl)) rfl rfl ⟨rfl, trivial⟩ ?_
      refine arun_nil ?_
      refine awp_seq ?_
      refine tx ?_
      refine lN Tryz.underlying111 rfl sz111 rfl rfl ⟨rfl, trivial⟩ ?_
      refine r_callV (fun n => 32 + 1000 * n) (hC) rfl rfl Tryz.func72 rfl rfl (by first | rfl | simp [AV.noSl, AV.noSlL, AObj.noSl, PV.isV, bs_noSl]) (by first | rfl | simp [AV.noSl, AV.noSlL, AObj.noSl, PV.isV, bs_noSl]) rfl rfl rfl (by first | exact trivial | exact ⟨rfl, trivial⟩ | exact ⟨rfl, rfl, trivial⟩) rfl rfl rfl ?_
      refine r_pure (a_move (r := .tup _)) rfl rfl ?_
      refine r_pure (a_extract rfl) rfl rfl ?_
      refine r_pure (a_extract rfl) rfl rfl ?_
      refine r_run (a_alloc 11 zr86 rfl) rfl rfl ⟨rfl, trivial⟩ ?_
      refine r_run (a_storeAll (Y := .agg _) sz86 rfl (by first | exact Nat.eq_of_beq_eq_true rfl | (simp only [AV.cells, List.length_map]; first | assumption | omega)) (Nat.eq_of_beq_eq_true rfl)) rfl rfl ⟨rfl, trivial⟩ ?_
      refine aP rfl rfl ?_
      refine arun_nil ?_
      refine awp_seq (awp_seq ?_)
      refine tx ?_
      refine mP rfl rfl ?_
      refine r_pure a_neq rfl rfl ?_
      refine arun_nil ?_
      refine thn_n ?_
      refine awp_cond _ rfl (fun h => ?_) (fun h => ?_)
      · have h5 : e ≠ 0 := by simpa using h
        rw [hbad h5] at hO
        subst hO
        refine awp_seq ?_
        refine tx ?_
        refine mP rfl rfl ?_
        refine r_pure (a_add (by first | exact IntWalk.i64_in _ (by omega) | rfl)) rfl rfl ?_
        refine mP rfl rfl ?_
        refine aP rfl rfl ?_
        refine aP rfl rfl ?_
        refine aP rfl rfl ?_
        refine arun_nil ?_
        refine awp_ret (thn_r (inb_r (thn_r (thn_r (inb_r (thn_r ?_))))))
        refine fT (fun o => o) (.tmp _ _ _ _ rfl (.tmp _ _ _ _ rfl (.tmp _ _ _ _ rfl .nil))) ?_ ?_
        · exact rfl
        · exact trivial
      have h5 : e = 0 := by simpa using h
      clear h
      refine awp_skip (thn_n ?_)
      refine tx ?_
      refine r_pure (a_move (r := .row _)) rfl rfl ?_
      refine lN Tryz.underlying86 rfl sz86 rfl rfl ⟨rfl, trivial⟩ ?_
      refine r_run (a_buildSlice 42 Tryz.underlying33 sz86 zc86 (Nat.le_of_ble_eq_true rfl) (Nat.le_of_ble_eq_true rfl) rfl rfl rfl rfl (Nat.le_of_ble_eq_true rfl)) rfl rfl ⟨rfl, trivial⟩ ?_
      refine r_run (a_append 43 Tryz.underlying33 eo86 (src_row) (by simp only [maxLen]; omega) (by omega) rfl rfl) rfl rfl ⟨rfl, rfl, rfl, trivial⟩ ?_
      refine r_pure (a_assign (r := .row _)) rfl rfl ?_
      refine arun_nil ?_
      refine inb_n (thn_n ?_)
      refine tx ?_
      refine r_pure (a_add (by first | exact IntWalk.i64_in _ (by omega) | rfl)) rfl rfl ?_
      refine mP rfl rfl ?_
      refine arun_nil ?_
      refine thn_n ?_
      refine ⟨m - 1, by omega, _, re_of (fun _ => 43) _ _ ?_ ?_ rfl, i + 1, by omega, hok h5, rfl⟩
      · (repeat (first | exact trivial | (refine ⟨⟨(by first | rfl | (simp; done) | (simp; omega)), rfl⟩, ?_⟩)))
      · exact ⟨⟨by rw [hnx]; rfl, rfl⟩, trivial⟩
    have hge : i = l.length := by simp at h; omega
    clear h
    subst hge
    rw [List.take_length] at hf ⊢
    rw [bdA_ok hf] at hO
    subst hO
    rw [show bpN (l.map rdS) none = [(0, .row 86 5 l.length ((l.map rdS).flatMap SE.pv))] by simp only [bpN, List.length_map]]
    refine awp_exit (awp_seq ?_)
    refine tx ?_
    refine r_pure (a_move (r := .row _)) rfl rfl ?_
    refine r_pure (a_assign (r := .row _)) rfl rfl ?_
    refine aP rfl rfl ?_
    refine aP rfl rfl ?_
    refine arun_nil ?_
    refine awp_ret ?_
    refine fT (fun _ => 100) (.tmp _ _ _ _ rfl (.tmp _ _ _ _ rfl (.tmp _ _ _ _ rfl .nil))) ?_ ?_
    · exact rfl
    · exact ⟨⟨rfl, rfl⟩, trivial⟩
set_option maxHeartbeats 4000000 in
theorem refBatch_s (s : ByteArray) : Fn Tryz.prog 31 [.p (.v (.string s))] (spR (bpO s)) (bpN (((spl s 10).map lnOf).map rdS) (bpO s)) := by
  obtain ⟨o, hO⟩ : ∃ o, bpO s = o := ⟨_, rfl⟩
  rw [hO]
  unfold bpO at hO
  have p1 := refLOf_s s
  have hl0 := @spO_none s
  have hl1 := @bp_lines s
  have hlen : ((spl s 10).map lnOf).length = cntB s 10 + 1 := by rw [List.length_map, spl_len]
  generalize (spl s 10).map lnOf = l at *
  generalize cntB s 10 = N at *
  generalize spO s = sp at *
  cases sp with
  | some x =>
    obtain ⟨n, e⟩ := x
    simp only [spR, spN] at p1
    refine fn_intro Tryz.func31 rfl (Nat.le_of_ble_eq_true rfl) fun w0 A => ?_
    refine awp_seq ?_
    refine tx ?_
    refine aP rfl rfl ?_
    refine aP rfl rfl ?_
    refine aP rfl rfl ?_
    refine arun_nil ?_
    refine awp_seq ?_
    refine tx ?_
    refine mP rfl rfl ?_
    refine r_callV (fun n => 14 + 1000 * n) (p1) rfl rfl Tryz.func74 rfl rfl (by first | rfl | simp [AV.noSl, AV.noSlL, AObj.noSl, PV.isV, bs_noSl]) (by first | rfl | simp [AV.noSl, AV.noSlL, AObj.noSl, PV.isV, bs_noSl]) rfl rfl rfl (by first | exact trivial | exact ⟨rfl, trivial⟩ | exact ⟨rfl, rfl, trivial⟩) rfl rfl rfl ?_
    refine r_pure (a_move (r := .tup _)) rfl rfl ?_
    refine r_pure (a_extract rfl) rfl rfl ?_
    refine r_pure (a_extract rfl) rfl rfl ?_
    refine r_pure (a_extract rfl) rfl rfl ?_
    refine aP rfl rfl ?_
    refine aP rfl rfl ?_
    refine aP rfl rfl ?_
    refine arun_nil ?_
    refine awp_seq (awp_seq ?_)
    refine tx ?_
    refine mP rfl rfl ?_
    refine r_pure a_neq rfl rfl ?_
    refine arun_nil ?_
    refine thn_n ?_
    refine awp_cond _ rfl (fun h => ?_) (fun h => ?_)
    · have h1 : e ≠ 0 := by simpa using h
      dsimp only at hO
      rw [if_neg h1] at hO
      subst hO
      refine awp_seq ?_
      refine tx ?_
      refine mP rfl rfl ?_
      refine mP rfl rfl ?_
      refine aP rfl rfl ?_
      refine aP rfl rfl ?_
      refine aP rfl rfl ?_
      refine arun_nil ?_
      refine awp_ret (thn_r ?_)
      refine fT (fun o => o) (.tmp _ _ _ _ rfl (.tmp _ _ _ _ rfl (.tmp _ _ _ _ rfl .nil))) ?_ ?_
      · exact rfl
      · exact trivial
    have h1 : e = 0 := by simpa using h
    clear h
    subst h1
    dsimp only at hO
    rw [if_pos rfl] at hO
    subst hO
    refine awp_skip (awp_seq ?_)
    refine tx ?_
    refine aP rfl rfl ?_
    refine arun_nil ?_
    refine awp_seq (awp_seq ?_)
    refine tx ?_
    refine aP rfl rfl ?_
    refine arun_nil ?_
    refine awp_block ?_
    refine awp_loopR (fun m st => st = St.of [(5, .p (.v (.slice none 0 0))), (8, .p (.v (.slice none 0 0))), (9, .p (.v (.int .i64 0)))] []) 0 ?_ ?_
    · refine ⟨_, re_of id _ _ ?_ ?_ rfl, rfl⟩
      · (repeat (first | exact trivial | (refine ⟨⟨(by first | rfl | (simp; done) | (simp; omega)), rfl⟩, ?_⟩)))
      · exact trivial
    rintro m st rfl
    refine awp_seq (awp_seq ?_)
    refine tx ?_
    refine mP rfl rfl ?_
    refine mP rfl rfl ?_
    refine r_pure (a_lenNil Tryz.underlying109) rfl rfl ?_
    refine r_pure a_lss rfl rfl ?_
    refine arun_nil ?_
    refine thn_n ?_
    refine awp_cond _ rfl (fun h => ?_) (fun h => ?_)
    · cases h
    refine awp_exit (awp_seq ?_)
    refine tx ?_
    refine mP rfl rfl ?_
    refine aP rfl rfl ?_
    refine aP rfl rfl ?_
    refine aP rfl rfl ?_
    refine arun_nil ?_
    refine awp_ret ?_
    refine fT (fun o => o) (.tmp _ _ _ _ rfl (.tmp _ _ _ _ rfl (.tmp _ _ _ _ rfl .nil))) ?_ ?_
    · exact rfl
    · exact trivial
  | none =>
    obtain ⟨hs, hN⟩ := hl0 rfl
    have hl1 := hl1 hs
    simp only [spR, spN] at p1
    dsimp only at hO
    refine fn_intro Tryz.func31 rfl (Nat.le_of_ble_eq_true rfl) fun w0 A => ?_
    refine awp_seq ?_
    refine tx ?_
    refine aP rfl rfl ?_
    refine aP rfl rfl ?_
    refine aP rfl rfl ?_
    refine arun_nil ?_
    refine awp_seq ?_
    refine tx ?_
    refine mP rfl rfl ?_
    refine r_callS (fun _ => 14) (p1) rfl rfl Tryz.func74 rfl rfl (by first | rfl | simp [AV.okInL, AV.okIn, okInL_map]) rfl rfl rfl (by first | exact trivial | exact ⟨rfl, trivial⟩ | exact ⟨rfl, rfl, trivial⟩) rfl rfl rfl ?_
    refine r_pure (a_move (r := .tup _)) rfl rfl ?_
    refine r_pure (a_extract rfl) rfl rfl ?_
    refine r_pure (a_extract rfl) rfl rfl ?_
    refine r_pure (a_extract rfl) rfl rfl ?_
    refine r_pure (a_assign (r := .row _)) rfl rfl ?_
    refine aP rfl rfl ?_
    refine aP rfl rfl ?_
    refine arun_nil ?_
    refine thn_reO (reo_fzR (cs := l.flatMap lnC) 14 rfl) ?_
    refine awp_seq (awp_seq ?_)
    refine tx ?_
    refine mP rfl rfl ?_
    refine r_pure a_neqT rfl rfl ?_
    refine arun_nil ?_
    refine thn_n ?_
    refine awp_cond _ rfl (fun h => ?_) (fun h => ?_)
    · cases h
    refine awp_skip (awp_seq ?_)
    refine tx ?_
    refine aP rfl rfl ?_
    refine arun_nil ?_
    refine thn_n (awp_re (re_nil 8 100 86 5 rfl rfl) ?_)
    refine awp_seq (awp_seq ?_)
    refine tx ?_
    refine aP rfl rfl ?_
    refine arun_nil ?_
    refine awp_block ?_
    refine awp_loopR (fun m st => ∃ i : Nat, m + i = l.length ∧ (∀ q ∈ l.take i, rdE q = 0) ∧ st = St.of [(5, .p (.sl l.length 2 (l.flatMap lnC))), (8, .row 100), (9, .p (.v (.int .i64 i)))] [(100, .row 86 5 i (((l.take i).map rdS).flatMap SE.pv))]) l.length ?_ ?_
    · refine ⟨_, re_of id _ _ ?_ ?_ rfl, 0, by omega, by simp, rfl⟩
      · (repeat (first | exact trivial | (refine ⟨⟨(by first | rfl | (simp; done) | (simp; omega)), rfl⟩, ?_⟩)))
      · exact ⟨⟨rfl, rfl⟩, trivial⟩
    rintro m st ⟨i, hi, hf, rfl⟩
    refine awp_seq (awp_seq ?_)
    refine tx ?_
    refine mP rfl rfl ?_
    refine mP rfl rfl ?_
    refine r_pure (a_lenS Tryz.underlying109) rfl rfl ?_
    refine r_pure a_lss rfl rfl ?_
    refine arun_nil ?_
    refine thn_n ?_
    refine awp_cond _ rfl (fun h => ?_) (fun h => ?_)
    · have hlt : i < l.length := by simp at h; omega
      clear h
      obtain ⟨p, hp⟩ : ∃ p, l[i]? = some p := ⟨l[i], List.getElem?_eq_getElem hlt⟩
      have hch := chunk_at (f := lnC) (k := 2) (fun _ => rfl) hp
      have hle := chunk_le (f := lnC) (k := 2) (fun _ => rfl) hlt
      have hpz := hl1 p (List.mem_of_getElem? hp)
      have hbad := @bdA_hit rdE p l i 0 hp hf
      have hok := takeL_ok hp hf
      have hnx := takeL_next hp
      have hC := refRead_s p.1 p.2 (by omega)
      rw [rdR_eq] at hC
      have hil : (((l.take i).map rdS).flatMap SE.pv).length = i * 5 := by rw [chunk_len (k := 5) (fun _ => rfl), List.length_map, List.length_take, Nat.min_eq_left (by omega)]
      rw [Nat.zero_add] at hbad
      generalize rdE p = e at *
      generalize rdS p = r at *
      generalize ((l.take i).map rdS).flatMap SE.pv = T at *
      generalize hLL : l.flatMap lnC = L at *
      obtain ⟨k, v⟩ := p
      obtain ⟨rk, rt, rn, ra, rb⟩ := r
      change Fn Tryz.prog _ [.agg [.p (.v (.string k)), .p (.v (.string v))]] (.tup [.agg [.p (.v (.int .i64 rk)), .p (.v (.string rt)), .p (.v (.int .i64 rn)), .p (.v (.int .u32 ra)), .p (.v (.int .i64 rb))], .p (.v (.int .i64 e))]) _ at hC
      refine awp_skip (awp_seq (awp_block (awp_seq ?_)))
      refine tx ?_
      refine mP rfl rfl ?_
      refine mP rfl rfl ?_
      refine r_pure (a_indexAddrS Tryz.underlying109 sz111 (by omega) (by omega) rfl) rfl rfl ?_
      refine r_pure (a_loadNp Tryz.underlying111 rfl sz111 (by first | omega | (simp; done) | (simp; omega)) (hch)) rfl rfl ?_
      refine r_callV (fun n => 33 + 1000 * n) (hC) rfl rfl Tryz.func75 rfl rfl (by first | rfl | simp [AV.noSl, AV.noSlL, AObj.noSl, PV.isV, bs_noSl]) (by first | rfl | simp [AV.noSl, AV.noSlL, AObj.noSl, PV.isV, bs_noSl]) rfl rfl rfl (by first | exact trivial | exact ⟨rfl, trivial⟩ | exact ⟨rfl, rfl, trivial⟩) rfl rfl rfl ?_
      refine r_pure (a_move (r := .tup _)) rfl rfl ?_
      refine r_pure (a_extract rfl) rfl rfl ?_
      refine r_pure (a_extract rfl) rfl rfl ?_
      refine r_run (a_alloc 10 zr86 rfl) rfl rfl ⟨rfl, trivial⟩ ?_
      refine r_run (a_storeAll (Y := .agg _) sz86 rfl (by first | exact Nat.eq_of_beq_eq_true rfl | (simp only [AV.cells, List.length_map]; first | assumption | omega)) (Nat.eq_of_beq_eq_true rfl)) rfl rfl ⟨rfl, trivial⟩ ?_
      refine aP rfl rfl ?_
      refine arun_nil ?_
      refine awp_seq (awp_seq ?_)
      refine tx ?_
      refine mP rfl rfl ?_
      refine r_pure a_neq rfl rfl ?_
      refine arun_nil ?_
      refine thn_n ?_
      refine awp_cond _ rfl (fun h => ?_) (fun h => ?_)
      · have h5 : e ≠ 0 := by simpa using h
        rw [hbad h5] at hO
        subst hO
        refine awp_seq ?_
        refine tx ?_
        refine mP rfl rfl ?_
        refine r_pure (a_add (by first | exact IntWalk.i64_in _ (by omega) | rfl)) rfl rfl ?_
        refine mP rfl rfl ?_
        refine aP rfl rfl ?_
        refine aP rfl rfl ?_
        refine aP rfl rfl ?_
        refine arun_nil ?_
        refine awp_ret (thn_r (inb_r (thn_r (thn_r (inb_r (thn_r ?_))))))
        refine fT (fun o => o) (.tmp _ _ _ _ rfl (.tmp _ _ _ _ rfl (.tmp _ _ _ _ rfl .nil))) ?_ ?_
        · exact rfl
        · exact trivial
      have h5 : e = 0 := by simpa using h
      clear h
      refine awp_skip (thn_n ?_)
      refine tx ?_
      refine r_pure (a_move (r := .row _)) rfl rfl ?_
      refine lN Tryz.underlying86 rfl sz86 rfl rfl ⟨rfl, trivial⟩ ?_
      refine r_run (a_buildSlice 43 Tryz.underlying33 sz86 zc86 (Nat.le_of_ble_eq_true rfl) (Nat.le_of_ble_eq_true rfl) rfl rfl rfl rfl (Nat.le_of_ble_eq_true rfl)) rfl rfl ⟨rfl, trivial⟩ ?_
      refine r_run (a_append 44 Tryz.underlying33 eo86 (src_row) (by simp only [maxLen]; omega) (by omega) rfl rfl) rfl rfl ⟨rfl, rfl, rfl, trivial⟩ ?_
      refine r_pure (a_assign (r := .row _)) rfl rfl ?_
      refine arun_nil ?_
      refine inb_n (thn_n ?_)
      refine tx ?_
      refine mP rfl rfl ?_
      refine r_pure (a_add (by first | exact IntWalk.i64_in _ (by omega) | rfl)) rfl rfl ?_
      refine aP rfl rfl ?_
      refine arun_nil ?_
      refine thn_n ?_
      refine ⟨m - 1, by omega, _, re_of (fun _ => 44) _ _ ?_ ?_ rfl, i + 1, by omega, hok h5, rfl⟩
      · (repeat (first | exact trivial | (refine ⟨⟨(by first | rfl | (simp; done) | (simp; omega)), rfl⟩, ?_⟩)))
      · exact ⟨⟨by rw [hnx]; rfl, rfl⟩, trivial⟩
    have hge : i = l.length := by simp at h; omega
    clear h
    subst hge
    rw [List.take_length] at hf ⊢
    rw [bdA_ok hf] at hO
    subst hO
    rw [show bpN (l.map rdS) none = [(0, .row 86 5 l.length ((l.map rdS).flatMap SE.pv))] by simp only [bpN, List.length_map]]
    refine awp_exit (awp_seq ?_)
    refine tx ?_
    refine r_pure (a_move (r := .row _)) rfl rfl ?_
    refine r_pure (a_assign (r := .row _)) rfl rfl ?_
    refine aP rfl rfl ?_
    refine aP rfl rfl ?_
    refine arun_nil ?_
    refine awp_ret ?_
    refine fT (fun _ => 100) (.tmp _ _ _ _ rfl (.tmp _ _ _ _ rfl (.tmp _ _ _ _ rfl .nil))) ?_ ?_
    · exact rfl
    · exact ⟨⟨rfl, rfl⟩, trivial⟩
end Go.Proofs.YtgpleldhddpcgaaGreatDoor
