/- show.ofPeer, over data: the settings of a peer. -/
import Derived.Test.YtgpleldhddpcgaaGreatDoorCf2
import Derived.Test.YtgpleldhddpcgaaGreatDoorBt1
--%T
namespace Go.Proofs.YtgpleldhddpcgaaGreatDoor
open Go.RowKit Go.Sort
set_option linter.unusedVariables false
set_option linter.unusedSimpArgs false
set_option maxRecDepth 100000

def ofPeerL (p : PE) : List SE :=
  [⟨4, p.key, 0, 0, 0⟩] ++ (if p.sh ≠ ⟨#[]⟩ then [⟨6, p.sh, 0, 0, 0⟩] else []) ++ (if p.ep ≠ ⟨#[]⟩ then [⟨7, p.ep, 0, 0, 0⟩] else []) ++ (if 0 < p.al then [⟨8, ⟨#[]⟩, p.al, 0, 0⟩] else []) ++ p.nets.map fun n => ⟨10, ⟨#[]⟩, 0, n.1, n.2⟩
def seP (k : Int) (t : ByteArray) (n a b : Int) : List PV := [.v (.int .i64 k), .v (.string t), .v (.int .i64 n), .v (.int .u32 a), .v (.int .i64 b)]
/-- as many, and the cells, step by step -/
structure OfP (p : PE) (n : Nat) (L : List PV) : Prop where
  ex : ∃ n2 n3 n4 : Nat, ∃ L2 L3 L4 : List PV, (if p.sh ≠ ⟨#[]⟩ then 2 else 1) = n2 ∧ (if p.ep ≠ ⟨#[]⟩ then n2 + 1 else n2) = n3 ∧ (if 0 < p.al then n3 + 1 else n3) = n4 ∧ n = n4 + p.nets.length ∧
    (if p.sh ≠ ⟨#[]⟩ then seP 4 p.key 0 0 0 ++ seP 6 p.sh 0 0 0 else seP 4 p.key 0 0 0) = L2 ∧ (if p.ep ≠ ⟨#[]⟩ then L2 ++ seP 7 p.ep 0 0 0 else L2) = L3 ∧ (if 0 < p.al then L3 ++ seP 8 ⟨#[]⟩ p.al 0 0 else L3) = L4 ∧ L = L4 ++ p.nets.flatMap fun n => seP 10 ⟨#[]⟩ 0 n.1 n.2
theorem OfP.eq {p : PE} {n : Nat} {L : List PV} (h : OfP p n L) : n = (ofPeerL p).length ∧ L = (ofPeerL p).flatMap SE.pv := by
  obtain ⟨n2, n3, n4, L2, L3, L4, h1, h2, h3, rfl, k1, k2, k3, rfl⟩ := h.ex
  subst h1 h2 h3 k1 k2 k3
  have e : (p.nets.map fun n : NtP => (⟨10, ⟨#[]⟩, 0, n.1, n.2⟩ : SE)).flatMap SE.pv = p.nets.flatMap fun n => seP 10 ⟨#[]⟩ 0 n.1 n.2 := by
    rw [List.flatMap_map]
    rfl
  unfold ofPeerL
  rw [List.flatMap_append, e]
  constructor
  · by_cases a1 : p.sh ≠ ⟨#[]⟩ <;> by_cases a2 : p.ep ≠ ⟨#[]⟩ <;> by_cases a3 : 0 < p.al <;> simp [a1, a2, a3] <;> omega
  · congr 1
    by_cases a1 : p.sh ≠ ⟨#[]⟩ <;> by_cases a2 : p.ep ≠ ⟨#[]⟩ <;> by_cases a3 : 0 < p.al <;> simp [a1, a2, a3, seP, SE.pv]
theorem se_push (l : List NtP) (i : Nat) (a b : Int) (h : l[i]? = some (a, b)) : ((l.take i).flatMap fun n => seP 10 ⟨#[]⟩ 0 n.1 n.2) ++ seP 10 ⟨#[]⟩ 0 a b = (l.take (i + 1)).flatMap fun n => seP 10 ⟨#[]⟩ 0 n.1 n.2 := by
  obtain ⟨h1, h2⟩ := List.getElem?_eq_some_iff.1 h
  rw [List.take_succ_eq_append_getElem h1, h2, List.flatMap_append]
  simp
set_option maxHeartbeats 4000000 in
theorem ofPeer_x (p : PE) (hn : p.nets.length ≤ 1048576) : ∃ n L, OfP p n L ∧ Fn Tryz.prog 65 [.agg p.cells] (.row 0) [(0, .row 86 5 n L)] := by
  obtain ⟨n2, hn2⟩ : ∃ n : Nat, (if p.sh ≠ ⟨#[]⟩ then 2 else 1) = n := ⟨_, rfl⟩
  obtain ⟨n3, hn3⟩ : ∃ n : Nat, (if p.ep ≠ ⟨#[]⟩ then n2 + 1 else n2) = n := ⟨_, rfl⟩
  obtain ⟨n4, hn4⟩ : ∃ n : Nat, (if 0 < p.al then n3 + 1 else n3) = n := ⟨_, rfl⟩
  obtain ⟨L2, hL2⟩ : ∃ L, (if p.sh ≠ ⟨#[]⟩ then seP 4 p.key 0 0 0 ++ seP 6 p.sh 0 0 0 else seP 4 p.key 0 0 0) = L := ⟨_, rfl⟩
  obtain ⟨L3, hL3⟩ : ∃ L, (if p.ep ≠ ⟨#[]⟩ then L2 ++ seP 7 p.ep 0 0 0 else L2) = L := ⟨_, rfl⟩
  obtain ⟨L4, hL4⟩ : ∃ L, (if 0 < p.al then L3 ++ seP 8 ⟨#[]⟩ p.al 0 0 else L3) = L := ⟨_, rfl⟩
  refine ⟨n4 + p.nets.length, L4 ++ p.nets.flatMap fun n => seP 10 ⟨#[]⟩ 0 n.1 n.2, ⟨n2, n3, n4, L2, L3, L4, hn2, hn3, hn4, rfl, hL2, hL3, hL4, rfl⟩, ?_⟩
  have b2 : n2 ≤ 2 := by rw [← hn2]; split <;> omega
  have b3 : n3 ≤ 3 := by rw [← hn3]; split <;> omega
  have b4 : n4 ≤ 4 := by rw [← hn4]; split <;> omega
  have l2 : L2.length = n2 * 5 := by rw [← hL2, ← hn2]; split <;> rfl
  have l3 : L3.length = n3 * 5 := by rw [← hL3, ← hn3]; split <;> simp [l2, seP]; omega
  have l4 : L4.length = n4 * 5 := by rw [← hL4, ← hn4]; split <;> simp [l3, seP]; omega
  obtain ⟨key, sh, ep, al, nets⟩ := p
  dsimp only at hn hn2 hn3 hn4 hL2 hL3 hL4
  show Fn Tryz.prog _ [.agg [.p (.v (.string key)), .p (.v (.string sh)), .p (.v (.string ep)), .p (.v (.int .i64 al)), .p (.sl nets.length 2 (nets.flatMap ntC))]] _ _
  refine fn_intro Tryz.func65 rfl (Nat.le_of_ble_eq_true rfl) fun w0 A => ?_
  refine awp_seq ?_
  refine tx ?_
  refine r_run (a_box (X := .agg _) 1 rfl) rfl rfl ⟨rfl, trivial⟩ ?_
  refine aP rfl rfl ?_
  refine arun_nil ?_
  refine awp_seq ?_
  refine tx ?_
  refine fA fi49_0 rfl rfl ?_
  refine l1 Tryz.underlying9 rfl rfl rfl ⟨rfl, trivial⟩ ?_
  refine r_pure (b_build pl86 zr86 rfl rfl) rfl rfl ?_
  refine r_run (xs := [.agg [.p (.v (.int .i64 4)), .p (.v (.string key)), .p (.v (.int .i64 0)), .p (.v (.int .u32 0)), .p (.v (.int .i64 0))]]) (a_buildSlice (es := [.p (.v (.int .i64 4)), .p (.v (.string key)), .p (.v (.int .i64 0)), .p (.v (.int .u32 0)), .p (.v (.int .i64 0))]) (cs := [.v (.int .i64 4), .v (.string key), .v (.int .i64 0), .v (.int .u32 0), .v (.int .i64 0)]) 9 Tryz.underlying33 sz86 zc86 (Nat.le_of_ble_eq_true rfl) (Nat.le_of_ble_eq_true rfl) rfl (by kernel_rfl) (by kernel_rfl) (by kernel_rfl) (Nat.le_of_ble_eq_true rfl)) (by first | rfl | kernel_rfl) rfl ⟨rfl, trivial⟩ ?_
  refine r_pure (a_assign (r := .row _)) rfl rfl ?_
  refine arun_nil ?_
  refine awp_seq (awp_seq ?_)
  refine tx ?_
  refine fA fi49_1 rfl rfl ?_
  refine l1 Tryz.underlying9 rfl rfl rfl ⟨rfl, trivial⟩ ?_
  refine r_pure a_sneq rfl rfl ?_
  refine arun_nil ?_
  refine thn_n ?_
  refine awp_join2 (St.of [(1, .ref 1 0), (3, .row 100)] [(1, .box 49 [.p (.v (.string key)), .p (.v (.string sh)), .p (.v (.string ep)), .p (.v (.int .i64 al)), .p (.sl nets.length 2 (nets.flatMap ntC))]), (100, .row 86 5 n2 L2)]) ?_ ?_
  · skip
    refine awp_cond _ rfl (fun h => ?_) (fun h => ?_)
    · have h1 : sh ≠ ⟨#[]⟩ := by simpa using h
      rw [if_pos h1] at hn2 hL2
      subst hn2 hL2
      skip
      refine tx ?_
      refine r_pure (a_move (r := .row _)) rfl rfl ?_
      refine fA fi49_1 rfl rfl ?_
      refine l1 Tryz.underlying9 rfl rfl rfl ⟨rfl, trivial⟩ ?_
      refine r_pure (b_build pl86 zr86 rfl rfl) rfl rfl ?_
      refine r_run (xs := [.agg [.p (.v (.int .i64 6)), .p (.v (.string sh)), .p (.v (.int .i64 0)), .p (.v (.int .u32 0)), .p (.v (.int .i64 0))]]) (a_buildSlice (es := [.p (.v (.int .i64 6)), .p (.v (.string sh)), .p (.v (.int .i64 0)), .p (.v (.int .u32 0)), .p (.v (.int .i64 0))]) (cs := [.v (.int .i64 6), .v (.string sh), .v (.int .i64 0), .v (.int .u32 0), .v (.int .i64 0)]) 17 Tryz.underlying33 sz86 zc86 (Nat.le_of_ble_eq_true rfl) (Nat.le_of_ble_eq_true rfl) rfl (by kernel_rfl) (by kernel_rfl) (by kernel_rfl) (Nat.le_of_ble_eq_true rfl)) (by first | rfl | kernel_rfl) rfl ⟨rfl, trivial⟩ ?_
      refine r_run (a_append 18 Tryz.underlying33 eo86 (src_row) (by simp only [maxLen]; omega) (by omega) rfl rfl) rfl rfl ⟨rfl, rfl, rfl, trivial⟩ ?_
      refine r_pure (a_assign (r := .row _)) rfl rfl ?_
      refine arun_nil ?_
      refine thn_n ?_
      exact re_of (fun o => bif Nat.beq o 100 then 18 else o) _ _ (by repeat (first | exact trivial | refine ⟨⟨rfl, rfl⟩, ?_⟩)) (by repeat (first | exact trivial | refine ⟨⟨rfl, rfl⟩, ?_⟩)) rfl
    · have h1 : ¬ sh ≠ ⟨#[]⟩ := by simpa using h
      rw [if_neg h1] at hn2 hL2
      subst hn2 hL2
      refine awp_skip (thn_n ?_)
      exact re_of (fun o => bif Nat.beq o 100 then 9 else o) _ _ (by repeat (first | exact trivial | refine ⟨⟨rfl, rfl⟩, ?_⟩)) (by repeat (first | exact trivial | refine ⟨⟨rfl, rfl⟩, ?_⟩)) rfl
  clear hn2 hL2
  refine awp_seq (awp_seq ?_)
  refine tx ?_
  refine fA fi49_2 rfl rfl ?_
  refine l1 Tryz.underlying9 rfl rfl rfl ⟨rfl, trivial⟩ ?_
  refine r_pure a_sneq rfl rfl ?_
  refine arun_nil ?_
  refine thn_n ?_
  refine awp_join2 (St.of [(1, .ref 1 0), (3, .row 100)] [(1, .box 49 [.p (.v (.string key)), .p (.v (.string sh)), .p (.v (.string ep)), .p (.v (.int .i64 al)), .p (.sl nets.length 2 (nets.flatMap ntC))]), (100, .row 86 5 n3 L3)]) ?_ ?_
  · skip
    refine awp_cond _ rfl (fun h => ?_) (fun h => ?_)
    · have h1 : ep ≠ ⟨#[]⟩ := by simpa using h
      rw [if_pos h1] at hn3 hL3
      subst hn3 hL3
      skip
      refine tx ?_
      refine r_pure (a_move (r := .row _)) rfl rfl ?_
      refine fA fi49_2 rfl rfl ?_
      refine l1 Tryz.underlying9 rfl rfl rfl ⟨rfl, trivial⟩ ?_
      refine r_pure (b_build pl86 zr86 rfl rfl) rfl rfl ?_
      refine r_run (xs := [.agg [.p (.v (.int .i64 7)), .p (.v (.string ep)), .p (.v (.int .i64 0)), .p (.v (.int .u32 0)), .p (.v (.int .i64 0))]]) (a_buildSlice (es := [.p (.v (.int .i64 7)), .p (.v (.string ep)), .p (.v (.int .i64 0)), .p (.v (.int .u32 0)), .p (.v (.int .i64 0))]) (cs := [.v (.int .i64 7), .v (.string ep), .v (.int .i64 0), .v (.int .u32 0), .v (.int .i64 0)]) 26 Tryz.underlying33 sz86 zc86 (Nat.le_of_ble_eq_true rfl) (Nat.le_of_ble_eq_true rfl) rfl (by kernel_rfl) (by kernel_rfl) (by kernel_rfl) (Nat.le_of_ble_eq_true rfl)) (by first | rfl | kernel_rfl) rfl ⟨rfl, trivial⟩ ?_
      refine r_run (a_append 27 Tryz.underlying33 eo86 (src_row) (by simp only [maxLen]; omega) (by omega) rfl rfl) rfl rfl ⟨rfl, rfl, rfl, trivial⟩ ?_
      refine r_pure (a_assign (r := .row _)) rfl rfl ?_
      refine arun_nil ?_
      refine thn_n ?_
      exact re_of (fun o => bif Nat.beq o 100 then 27 else o) _ _ (by repeat (first | exact trivial | refine ⟨⟨rfl, rfl⟩, ?_⟩)) (by repeat (first | exact trivial | refine ⟨⟨rfl, rfl⟩, ?_⟩)) rfl
    · have h1 : ¬ ep ≠ ⟨#[]⟩ := by simpa using h
      rw [if_neg h1] at hn3 hL3
      subst hn3 hL3
      refine awp_skip (thn_n ?_)
      exact re_of id _ _ (by repeat (first | exact trivial | refine ⟨⟨rfl, rfl⟩, ?_⟩)) (by repeat (first | exact trivial | refine ⟨⟨rfl, rfl⟩, ?_⟩)) rfl
  clear hn3 hL3
  refine awp_seq (awp_seq ?_)
  refine tx ?_
  refine fA fi49_3 rfl rfl ?_
  refine l1 Tryz.underlying3 rfl rfl rfl ⟨rfl, trivial⟩ ?_
  refine r_pure a_gtr rfl rfl ?_
  refine arun_nil ?_
  refine thn_n ?_
  refine awp_join2 (St.of [(1, .ref 1 0), (3, .row 100)] [(1, .box 49 [.p (.v (.string key)), .p (.v (.string sh)), .p (.v (.string ep)), .p (.v (.int .i64 al)), .p (.sl nets.length 2 (nets.flatMap ntC))]), (100, .row 86 5 n4 L4)]) ?_ ?_
  · skip
    refine awp_cond _ rfl (fun h => ?_) (fun h => ?_)
    · have h1 : 0 < al := by simpa using h
      rw [if_pos h1] at hn4 hL4
      subst hn4 hL4
      skip
      refine tx ?_
      refine r_pure (a_move (r := .row _)) rfl rfl ?_
      refine fA fi49_3 rfl rfl ?_
      refine l1 Tryz.underlying3 rfl rfl rfl ⟨rfl, trivial⟩ ?_
      refine r_pure (b_build pl86 zr86 rfl rfl) rfl rfl ?_
      refine r_run (xs := [.agg [.p (.v (.int .i64 8)), .p (.v (.string ⟨#[]⟩)), .p (.v (.int .i64 al)), .p (.v (.int .u32 0)), .p (.v (.int .i64 0))]]) (a_buildSlice (es := [.p (.v (.int .i64 8)), .p (.v (.string ⟨#[]⟩)), .p (.v (.int .i64 al)), .p (.v (.int .u32 0)), .p (.v (.int .i64 0))]) (cs := [.v (.int .i64 8), .v (.string ⟨#[]⟩), .v (.int .i64 al), .v (.int .u32 0), .v (.int .i64 0)]) 35 Tryz.underlying33 sz86 zc86 (Nat.le_of_ble_eq_true rfl) (Nat.le_of_ble_eq_true rfl) rfl (by kernel_rfl) (by kernel_rfl) (by kernel_rfl) (Nat.le_of_ble_eq_true rfl)) (by first | rfl | kernel_rfl) rfl ⟨rfl, trivial⟩ ?_
      refine r_run (a_append 36 Tryz.underlying33 eo86 (src_row) (by simp only [maxLen]; omega) (by omega) rfl rfl) rfl rfl ⟨rfl, rfl, rfl, trivial⟩ ?_
      refine r_pure (a_assign (r := .row _)) rfl rfl ?_
      refine arun_nil ?_
      refine thn_n ?_
      exact re_of (fun o => bif Nat.beq o 100 then 36 else o) _ _ (by repeat (first | exact trivial | refine ⟨⟨rfl, rfl⟩, ?_⟩)) (by repeat (first | exact trivial | refine ⟨⟨rfl, rfl⟩, ?_⟩)) rfl
    · have h1 : ¬ 0 < al := by simpa using h
      rw [if_neg h1] at hn4 hL4
      subst hn4 hL4
      refine awp_skip (thn_n ?_)
      exact re_of id _ _ (by repeat (first | exact trivial | refine ⟨⟨rfl, rfl⟩, ?_⟩)) (by repeat (first | exact trivial | refine ⟨⟨rfl, rfl⟩, ?_⟩)) rfl
  clear hn4 hL4
  refine awp_seq (awp_seq ?_)
  refine tx ?_
  refine fA fi49_4 rfl rfl ?_
  refine l1 Tryz.underlying47 rfl rfl rfl ⟨rfl, trivial⟩ ?_
  refine r_pure (a_lenS Tryz.underlying47) rfl rfl ?_
  refine mP rfl rfl ?_
  refine arun_nil ?_
  refine awp_block ?_
  refine awp_loopR (fun m st => ∃ i : Nat, m + i = nets.length ∧ st = St.of [(3, .row 100), (38, .p (.sl nets.length 2 (nets.flatMap ntC))), (39, .p (.v (.int .i64 nets.length))), (40, .p (.v (.int .i64 i)))] [(100, .row 86 5 (n4 + i) (L4 ++ (nets.take i).flatMap fun n => seP 10 ⟨#[]⟩ 0 n.1 n.2))]) nets.length ?_ ?_
  · refine ⟨_, re_of id _ _ ?_ ?_ rfl, 0, by omega, rfl⟩
    · (repeat (first | exact trivial | (refine ⟨⟨(by first | rfl | (simp; done) | (simp; omega)), rfl⟩, ?_⟩)))
    · refine ⟨⟨?_, rfl⟩, trivial⟩
      rw [List.take_zero, List.flatMap_nil, List.append_nil]
      rfl
  rintro m st ⟨i, hi, rfl⟩
  refine awp_seq ?_
  refine tx ?_
  refine r_pure a_lss rfl rfl ?_
  refine arun_nil ?_
  refine awp_seq ?_
  refine awp_cond _ rfl (fun h => ?_) (fun h => ?_)
  · have hlt : i < nets.length := by simp at h; omega
    clear h
    obtain ⟨q, hq⟩ : ∃ q, nets[i]? = some q := ⟨nets[i], List.getElem?_eq_getElem hlt⟩
    have hch := chunk_at (f := ntC) (k := 2) (fun _ => rfl) hq
    have hle := chunk_le (f := ntC) (k := 2) (fun _ => rfl) hlt
    obtain ⟨a, b⟩ := q
    have hpush := se_push nets i a b hq
    have hTl : (L4 ++ (nets.take i).flatMap fun n => seP 10 ⟨#[]⟩ 0 n.1 n.2).length = (n4 + i) * 5 := by
      rw [List.length_append, l4, chunk_len (k := 5) (fun _ => rfl), List.length_take, Nat.min_eq_left (by omega)]
      omega
    have hpush2 := congrArg (L4 ++ ·) hpush
    rw [← List.append_assoc] at hpush2
    generalize (L4 ++ (nets.take i).flatMap fun n => seP 10 ⟨#[]⟩ 0 n.1 n.2) = T at *
    generalize nets.flatMap ntC = L at *
    refine awp_skip (awp_seq (awp_block (awp_seq ?_)))
    refine tx ?_
    refine r_pure (a_indexAddrS Tryz.underlying47 sz52 (by omega) (by omega) rfl) rfl rfl ?_
    refine r_pure (a_loadNp Tryz.underlying52 rfl sz52 (by first | omega | (simp; done) | (simp; omega)) (hch)) rfl rfl ?_
    refine r_run (a_alloc 5 zr52 rfl) rfl rfl ⟨rfl, trivial⟩ ?_
    refine r_run (a_storeAll (Y := .agg [.p (.v (.int .u32 a)), .p (.v (.int .i64 b))]) sz52 rfl rfl (Nat.eq_of_beq_eq_true rfl)) rfl rfl ⟨rfl, trivial⟩ ?_
    refine arun_nil ?_
    refine thn_n ?_
    refine tx ?_
    refine r_pure (a_move (r := .row _)) rfl rfl ?_
    refine lN Tryz.underlying52 rfl sz52 rfl rfl ⟨rfl, trivial⟩ ?_
    refine r_pure (b_build pl86 zr86 rfl rfl) rfl rfl ?_
    refine r_run (xs := [.agg [.p (.v (.int .i64 10)), .p (.v (.string ⟨#[]⟩)), .p (.v (.int .i64 0)), .p (.v (.int .u32 a)), .p (.v (.int .i64 b))]]) (a_buildSlice (es := [.p (.v (.int .i64 10)), .p (.v (.string ⟨#[]⟩)), .p (.v (.int .i64 0)), .p (.v (.int .u32 a)), .p (.v (.int .i64 b))]) (cs := [.v (.int .i64 10), .v (.string ⟨#[]⟩), .v (.int .i64 0), .v (.int .u32 a), .v (.int .i64 b)]) 47 Tryz.underlying33 sz86 zc86 (Nat.le_of_ble_eq_true rfl) (Nat.le_of_ble_eq_true rfl) rfl (by kernel_rfl) (by kernel_rfl) (by kernel_rfl) (Nat.le_of_ble_eq_true rfl)) (by first | rfl | kernel_rfl) rfl ⟨rfl, trivial⟩ ?_
    refine r_run (a_append 48 Tryz.underlying33 eo86 (src_row) (by simp only [maxLen]; omega) (by omega) rfl rfl) rfl rfl ⟨rfl, rfl, rfl, trivial⟩ ?_
    refine r_pure (a_assign (r := .row _)) rfl rfl ?_
    refine arun_nil ?_
    refine inb_n (thn_n ?_)
    refine tx ?_
    refine r_pure (a_add (by first | exact IntWalk.i64_in _ (by omega) | rfl)) rfl rfl ?_
    refine mP rfl rfl ?_
    refine arun_nil ?_
    refine thn_n ?_
    refine ⟨m - 1, by omega, _, re_of (fun _ => 48) _ _ ?_ ?_ rfl, i + 1, by omega, rfl⟩
    · (repeat (first | exact trivial | (refine ⟨⟨(by first | rfl | (simp; done) | (simp; omega)), rfl⟩, ?_⟩)))
    · exact ⟨⟨by rw [← hpush2]; rfl, rfl⟩, trivial⟩
  have hge : i = nets.length := by simp at h; omega
  clear h
  subst hge
  rw [List.take_length]
  refine awp_exit (awp_seq ?_)
  refine tx ?_
  refine r_pure (a_move (r := .row _)) rfl rfl ?_
  refine r_pure (a_assign (r := .row _)) rfl rfl ?_
  refine arun_nil ?_
  refine awp_ret ?_
  refine fT (fun _ => 100) (.tmp _ _ _ _ rfl .nil) ?_ ?_
  · exact rfl
  · exact ⟨⟨rfl, rfl⟩, trivial⟩
end Go.Proofs.YtgpleldhddpcgaaGreatDoor
