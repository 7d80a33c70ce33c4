/- addr.End, addr.Text, their references, the laws AddrEnds, AddrTells, over data. -/
import Derived.Test.YtgpleldhddpcgaaGreatDoorSAd2
import Derived.Test.YtgpleldhddpcgaaGreatDoorSJn
namespace Go.Proofs.YtgpleldhddpcgaaGreatDoor
open Go.RowKit Go.Sort
set_option linter.unusedVariables false
set_option linter.unusedSimpArgs false
set_option maxRecDepth 100000
def adA (s : ByteArray) : Int := if adOk s = true then (adN (spl s 46) : Nat) else 0
def adE (s : ByteArray) : Int := if adOk s = true then 0 else 3
theorem adR_eq (s : ByteArray) : adR s = .tup [.p (.v (.int .u32 (adA s))), .p (.v (.int .i64 (adE s)))] := by
  unfold adR adA adE
  split <;> rfl
theorem numV_nn (s : ByteArray) (most : Int) : 0 ≤ numV s most := by
  unfold numV
  split <;> omega
/-- the address and the port of an endpoint -/
def enOk (s : ByteArray) : Prop := 0 ≤ ixB s 58 ∧ adE (cutA s 58) = 0 ∧ numE (cutZ s 58) 65535 = 0 ∧ numV (cutZ s 58) 65535 ≠ 0
instance enOk_dec (s : ByteArray) : Decidable (enOk s) := by unfold enOk; infer_instance
def enE (s : ByteArray) : Int := if enOk s then 0 else 3
def enR (s : ByteArray) : AV := if enOk s then .tup [.p (.v (.int .u32 (adA (cutA s 58)))), .p (.v (.int .i64 (numV (cutZ s 58) 65535))), .p (.v (.int .i64 0))] else .tup [.p (.v (.int .u32 0)), .p (.v (.int .i64 0)), .p (.v (.int .i64 3))]
set_option maxHeartbeats 1000000 in
theorem end_s (s : ByteArray) (hs : s.size < 4294967281) : Fn Tryz.prog 93 [.p (.v (.string s))] (enR s) [] := by
  have hK := cut1_s s 58 (by omega)
  have zA := cutA_size s 58
  have zZ := cutZ_size s 58
  have hP := parse_s (cutA s 58) (by omega)
  have hN := number_s (cutZ s 58) 65535 (by omega)
  have hE : enOk s ↔ 0 ≤ ixB s 58 ∧ adE (cutA s 58) = 0 ∧ numE (cutZ s 58) 65535 = 0 ∧ numV (cutZ s 58) 65535 ≠ 0 := Iff.rfl
  have hR1 : enOk s → enR s = .tup [.p (.v (.int .u32 (adA (cutA s 58)))), .p (.v (.int .i64 (numV (cutZ s 58) 65535))), .p (.v (.int .i64 0))] := fun h => if_pos h
  have hR2 : ¬ enOk s → enR s = .tup [.p (.v (.int .u32 0)), .p (.v (.int .i64 0)), .p (.v (.int .i64 3))] := fun h => if_neg h
  rw [adR_eq] at hP
  unfold numR at hN
  generalize enR s = R at *
  generalize ixB s 58 = ix at *
  generalize adE (cutA s 58) = e1 at *
  generalize adA (cutA s 58) = a1 at *
  generalize numE (cutZ s 58) 65535 = e2 at *
  generalize numV (cutZ s 58) 65535 = v2 at *
  generalize cutA s 58 = A at *
  generalize cutZ s 58 = Z at *
  refine fn_intro Tryz.func93 rfl (Nat.le_of_ble_eq_true rfl) fun w0 A => ?_
  refine awp_seq ?_
  refine tx ?_
  refine aP rfl rfl ?_
  refine aP rfl rfl ?_
  refine aP rfl rfl ?_
  refine arun_nil ?_
  refine awp_seq ?_
  refine tx ?_
  refine mP rfl rfl ?_
  refine r_callV (fun n => 14 + 1000 * n) (hK) rfl rfl Tryz.func118 rfl rfl (by first | rfl | simp [AV.noSl, AV.noSlL, AObj.noSl, PV.isV, bs_noSl]) (by first | rfl | simp [AV.noSl, AV.noSlL, AObj.noSl, PV.isV, bs_noSl]) rfl rfl rfl (by first | exact trivial | exact ⟨rfl, trivial⟩ | exact ⟨rfl, rfl, trivial⟩) rfl rfl rfl ?_
  refine r_pure (a_move (r := .tup _)) rfl rfl ?_
  refine r_pure (a_extract rfl) rfl rfl ?_
  refine r_pure (a_extract rfl) rfl rfl ?_
  refine r_pure (a_extract rfl) rfl rfl ?_
  refine aP rfl rfl ?_
  refine aP rfl rfl ?_
  refine aP rfl rfl ?_
  refine arun_nil ?_
  refine awp_seq ?_
  refine tx ?_
  refine mP rfl rfl ?_
  refine r_callV (fun n => 20 + 1000 * n) (hP) rfl rfl Tryz.func138 rfl rfl (by first | rfl | simp [AV.noSl, AV.noSlL, AObj.noSl, PV.isV, bs_noSl]) (by first | rfl | simp [AV.noSl, AV.noSlL, AObj.noSl, PV.isV, bs_noSl]) rfl rfl rfl (by first | exact trivial | exact ⟨rfl, trivial⟩ | exact ⟨rfl, rfl, trivial⟩) rfl rfl rfl ?_
  refine r_pure (a_move (r := .tup _)) rfl rfl ?_
  refine r_pure (a_extract rfl) rfl rfl ?_
  refine r_pure (a_extract rfl) rfl rfl ?_
  refine aP rfl rfl ?_
  refine aP rfl rfl ?_
  refine arun_nil ?_
  refine awp_seq ?_
  refine tx ?_
  refine mP rfl rfl ?_
  refine r_callV (fun n => 25 + 1000 * n) (hN) rfl rfl Tryz.func119 rfl rfl (by first | rfl | simp [AV.noSl, AV.noSlL, AObj.noSl, PV.isV, bs_noSl]) (by first | rfl | simp [AV.noSl, AV.noSlL, AObj.noSl, PV.isV, bs_noSl]) rfl rfl rfl (by first | exact trivial | exact ⟨rfl, trivial⟩ | exact ⟨rfl, rfl, trivial⟩) rfl rfl rfl ?_
  refine r_pure (a_move (r := .tup _)) rfl rfl ?_
  refine r_pure (a_extract rfl) rfl rfl ?_
  refine r_pure (a_extract rfl) rfl rfl ?_
  refine aP rfl rfl ?_
  refine aP rfl rfl ?_
  refine arun_nil ?_
  refine awp_seq (awp_seq ?_)
  refine tx ?_
  refine mP rfl rfl ?_
  refine r_pure a_not rfl rfl ?_
  refine mP rfl rfl ?_
  refine mb2 _ rfl rfl (fun hb => (a_move (r := .p _))) (fun _ => trivial) ?_
  refine mb2 _ rfl rfl (fun hb => a_neq) (fun _ => trivial) ?_
  refine r_pure (a_or (by first | exact id | (simp; done) | grind)) rfl rfl ?_
  refine mP rfl rfl ?_
  refine mb2 _ rfl rfl (fun hb => (a_move (r := .p _))) (fun _ => trivial) ?_
  refine mb2 _ rfl rfl (fun hb => a_neq) (fun _ => trivial) ?_
  refine r_pure (a_or (by first | exact id | (simp; done) | grind)) rfl rfl ?_
  refine mP rfl rfl ?_
  refine mb2 _ rfl rfl (fun hb => (a_move (r := .p _))) (fun _ => trivial) ?_
  refine mb2 _ rfl rfl (fun hb => a_eql) (fun _ => trivial) ?_
  refine r_pure (a_or (by first | exact id | (simp; done) | grind)) rfl rfl ?_
  refine arun_nil ?_
  refine thn_n ?_
  refine awp_cond _ rfl (fun h => ?_) (fun h => ?_)
  · rw [hR2 (by rw [hE]; intro ⟨q1, q2, q3, q4⟩; simp at h; omega)]
    refine awp_seq ?_
    refine tx ?_
    refine aP rfl rfl ?_
    refine aP rfl rfl ?_
    refine aP rfl rfl ?_
    refine arun_nil ?_
    refine awp_ret (thn_r ?_)
    refine fT (fun o => o) (.tmp _ _ _ _ rfl (.tmp _ _ _ _ rfl (.tmp _ _ _ _ rfl .nil))) ?_ ?_
    · exact rfl
    · exact trivial
  · rw [hR1 (by rw [hE]; simp at h; omega)]
    refine awp_skip (awp_seq ?_)
    refine tx ?_
    refine mP rfl rfl ?_
    refine mP rfl rfl ?_
    refine aP rfl rfl ?_
    refine aP rfl rfl ?_
    refine aP rfl rfl ?_
    refine arun_nil ?_
    refine awp_ret ?_
    refine fT (fun o => o) (.tmp _ _ _ _ rfl (.tmp _ _ _ _ rfl (.tmp _ _ _ _ rfl .nil))) ?_ ?_
    · exact rfl
    · exact trivial
set_option maxHeartbeats 1000000 in
theorem refEnd_s (s : ByteArray) (hs : s.size < 4294967281) : Fn Tryz.prog 103 [.p (.v (.string s))] (enR s) [] := by
  have hI := index1_s s 58
  have zA := cutA_size s 58
  have zZ := cutZ_size s 58
  have hP := refAddr_s (cutA s 58) (by omega)
  have hN := refNum_s (cutZ s 58) 65535 (by omega)
  have hE : enOk s ↔ 0 ≤ ixB s 58 ∧ adE (cutA s 58) = 0 ∧ numE (cutZ s 58) 65535 = 0 ∧ numV (cutZ s 58) 65535 ≠ 0 := Iff.rfl
  have hR1 : enOk s → enR s = .tup [.p (.v (.int .u32 (adA (cutA s 58)))), .p (.v (.int .i64 (numV (cutZ s 58) 65535))), .p (.v (.int .i64 0))] := fun h => if_pos h
  have hR2 : ¬ enOk s → enR s = .tup [.p (.v (.int .u32 0)), .p (.v (.int .i64 0)), .p (.v (.int .i64 3))] := fun h => if_neg h
  have hA : 0 ≤ ixB s 58 → cutA s 58 = s.extract 0 (ixB s 58).toNat := fun h => if_pos h
  have hZ : 0 ≤ ixB s 58 → cutZ s 58 = s.extract ((ixB s 58).toNat + 1) s.size := fun h => if_pos h
  have hnn := numV_nn (cutZ s 58) 65535
  have hlt := ixB_lt s 58
  rw [adR_eq] at hP
  unfold numR at hN
  generalize enR s = R at *
  generalize ixB s 58 = ix at *
  generalize adE (cutA s 58) = e1 at *
  generalize adA (cutA s 58) = a1 at *
  generalize numE (cutZ s 58) 65535 = e2 at *
  generalize numV (cutZ s 58) 65535 = v2 at *
  generalize cutA s 58 = A at *
  generalize cutZ s 58 = Z at *
  refine fn_intro Tryz.func103 rfl (Nat.le_of_ble_eq_true rfl) fun w0 A => ?_
  refine awp_seq ?_
  refine tx ?_
  refine aP rfl rfl ?_
  refine aP rfl rfl ?_
  refine aP rfl rfl ?_
  refine arun_nil ?_
  refine awp_seq ?_
  refine tx ?_
  refine mP rfl rfl ?_
  refine r_callV (fun n => 11 + 1000 * n) (hI) rfl rfl Tryz.func123 rfl rfl (by first | rfl | simp [AV.noSl, AV.noSlL, AObj.noSl, PV.isV, bs_noSl]) (by first | rfl | simp [AV.noSl, AV.noSlL, AObj.noSl, PV.isV, bs_noSl]) rfl rfl rfl (by first | exact trivial | exact ⟨rfl, trivial⟩ | exact ⟨rfl, rfl, trivial⟩) rfl rfl rfl ?_
  refine aP rfl rfl ?_
  refine arun_nil ?_
  refine awp_seq (awp_seq ?_)
  refine tx ?_
  refine mP rfl rfl ?_
  refine r_pure a_lss rfl rfl ?_
  refine arun_nil ?_
  refine thn_n ?_
  refine awp_cond _ rfl (fun h => ?_) (fun h => ?_)
  · rw [hR2 (by rw [hE]; intro ⟨q1, q2, q3, q4⟩; simp at h; omega)]
    refine awp_seq ?_
    refine tx ?_
    refine aP rfl rfl ?_
    refine aP rfl rfl ?_
    refine aP rfl rfl ?_
    refine arun_nil ?_
    refine awp_ret (thn_r ?_)
    refine fT (fun o => o) (.tmp _ _ _ _ rfl (.tmp _ _ _ _ rfl (.tmp _ _ _ _ rfl .nil))) ?_ ?_
    · exact rfl
    · exact trivial
  have h0 : 0 ≤ ix := by simp at h; omega
  clear h
  have hA := hA h0
  have hZ := hZ h0
  obtain ⟨n, rfl⟩ := Int.eq_ofNat_of_zero_le h0
  rw [Int.toNat_natCast] at hA hZ
  refine awp_skip (awp_seq ?_)
  refine tx ?_
  refine mP rfl rfl ?_
  refine mP rfl rfl ?_
  refine r_pure (a_sliceStr (L := none) (H := (some (_, _))) Tryz.underlying9 rfl ⟨by omega, (show _ = n by omega)⟩ (by omega) (by omega) hA.symm) rfl rfl ?_
  refine r_callV (fun n => 18 + 1000 * n) (hP) rfl rfl Tryz.func146 rfl rfl (by first | rfl | simp [AV.noSl, AV.noSlL, AObj.noSl, PV.isV, bs_noSl]) (by first | rfl | simp [AV.noSl, AV.noSlL, AObj.noSl, PV.isV, bs_noSl]) rfl rfl rfl (by first | exact trivial | exact ⟨rfl, trivial⟩ | exact ⟨rfl, rfl, trivial⟩) rfl rfl rfl ?_
  refine r_pure (a_move (r := .tup _)) rfl rfl ?_
  refine r_pure (a_extract rfl) rfl rfl ?_
  refine r_pure (a_extract rfl) rfl rfl ?_
  refine aP rfl rfl ?_
  refine aP rfl rfl ?_
  refine arun_nil ?_
  refine awp_seq ?_
  refine tx ?_
  refine mP rfl rfl ?_
  refine mP rfl rfl ?_
  refine r_pure (a_add (by first | exact IntWalk.i64_in _ (by omega) | rfl)) rfl rfl ?_
  refine r_pure (a_sliceStr (L := (some (_, _))) (H := none) Tryz.underlying9 ⟨by omega, (show _ = n + 1 by omega)⟩ rfl (by omega) (by omega) hZ.symm) rfl rfl ?_
  refine r_callV (fun n => 26 + 1000 * n) (hN) rfl rfl Tryz.func124 rfl rfl (by first | rfl | simp [AV.noSl, AV.noSlL, AObj.noSl, PV.isV, bs_noSl]) (by first | rfl | simp [AV.noSl, AV.noSlL, AObj.noSl, PV.isV, bs_noSl]) rfl rfl rfl (by first | exact trivial | exact ⟨rfl, trivial⟩ | exact ⟨rfl, rfl, trivial⟩) rfl rfl rfl ?_
  refine r_pure (a_move (r := .tup _)) rfl rfl ?_
  refine r_pure (a_extract rfl) rfl rfl ?_
  refine r_pure (a_extract rfl) rfl rfl ?_
  refine aP rfl rfl ?_
  refine aP rfl rfl ?_
  refine arun_nil ?_
  refine awp_seq (awp_seq ?_)
  refine tx ?_
  refine mP rfl rfl ?_
  refine r_pure a_neq rfl rfl ?_
  refine mP rfl rfl ?_
  refine mb2 _ rfl rfl (fun hb => (a_move (r := .p _))) (fun _ => trivial) ?_
  refine mb2 _ rfl rfl (fun hb => a_neq) (fun _ => trivial) ?_
  refine r_pure (a_or (by first | exact id | (simp; done) | grind)) rfl rfl ?_
  refine mP rfl rfl ?_
  refine mb2 _ rfl rfl (fun hb => (a_move (r := .p _))) (fun _ => trivial) ?_
  refine mb2 _ rfl rfl (fun hb => a_lss) (fun _ => trivial) ?_
  refine r_pure (a_or (by first | exact id | (simp; done) | grind)) rfl rfl ?_
  refine arun_nil ?_
  refine thn_n ?_
  refine awp_cond _ rfl (fun h => ?_) (fun h => ?_)
  · rw [hR2 (by rw [hE]; intro ⟨q1, q2, q3, q4⟩; simp at h; omega)]
    refine awp_seq ?_
    refine tx ?_
    refine aP rfl rfl ?_
    refine aP rfl rfl ?_
    refine aP rfl rfl ?_
    refine arun_nil ?_
    refine awp_ret (thn_r ?_)
    refine fT (fun o => o) (.tmp _ _ _ _ rfl (.tmp _ _ _ _ rfl (.tmp _ _ _ _ rfl .nil))) ?_ ?_
    · exact rfl
    · exact trivial
  · rw [hR1 (by rw [hE]; simp at h; omega)]
    refine awp_skip (awp_seq ?_)
    refine tx ?_
    refine mP rfl rfl ?_
    refine mP rfl rfl ?_
    refine aP rfl rfl ?_
    refine aP rfl rfl ?_
    refine aP rfl rfl ?_
    refine arun_nil ?_
    refine awp_ret ?_
    refine fT (fun o => o) (.tmp _ _ _ _ rfl (.tmp _ _ _ _ rfl (.tmp _ _ _ _ rfl .nil))) ?_ ?_
    · exact rfl
    · exact trivial
def adP (a : Int) (k : Nat) : Int := a / 2 ^ (24 - 8 * k) % 256
def DOT : ByteArray := ⟨#[46]⟩
def adTL (a : Int) : List ByteArray := [itoS (adP a 0), itoS (adP a 1), itoS (adP a 2), itoS (adP a 3)]
def adT (a : Int) : ByteArray := joinS (adTL a) DOT
theorem adP_in (a : Int) (k : Nat) : 0 ≤ adP a k ∧ adP a k < 256 := by unfold adP; omega
theorem adTL_at (a : Int) {k : Nat} (hk : k < 4) : (adTL a)[k]? = some (itoS (adP a k)) := by
  match k, hk with
  | 0, _ => rfl
  | 1, _ => rfl
  | 2, _ => rfl
  | 3, _ => rfl
theorem adT_eq (a : Int) : adT a = itoS (adP a 0) ++ DOT ++ itoS (adP a 1) ++ DOT ++ itoS (adP a 2) ++ DOT ++ itoS (adP a 3) := by
  unfold adT adTL
  generalize itoS (adP a 0) = x0
  generalize itoS (adP a 1) = x1
  generalize itoS (adP a 2) = x2
  generalize itoS (adP a 3) = x3
  have e3 := joinS_push [x0, x1, x2] DOT x3 (by simp)
  have e2 := joinS_push [x0, x1] DOT x2 (by simp)
  have e1 := joinS_push [x0] DOT x1 (by simp)
  simp only [List.cons_append, List.nil_append] at e1 e2 e3
  rw [e3, e2, e1, joinS_one]
theorem adT_size (a : Int) : (adT a).size ≤ 23 := by
  rw [adT_eq]
  simp only [cat_size]
  have h := fun k => itoS_size (adP a k) (adP_in a k).1 (by have := (adP_in a k).2; omega)
  have h0 := h 0
  have h1 := h 1
  have h2 := h 2
  have h3 := h 3
  have hd : DOT.size = 1 := rfl
  omega
theorem adSh (a : Int) (h0 : 0 ≤ a) (h1 : a < 4294967296) {k : Nat} (hk : k < 4) : bits .and .u32 (a.fdiv (2 ^ min (24 - 8 * (k : Int)).toNat IntKind.u32.bits)) 255 = adP a k := by
  have key : ∀ q : Int, 0 ≤ q → q < 4294967296 → bits .and .u32 q 255 = q % 256 := fun q q0 q1 => u32_and_mod q 8 q0 q1 (by omega)
  match k, hk with
  | 0, _ =>
    rw [show (2 : Int) ^ min (24 - 8 * ((0 : Nat) : Int)).toNat IntKind.u32.bits = 16777216 from rfl, Int.fdiv_eq_ediv_of_nonneg _ (by omega), key _ (by omega) (by omega)]
    rfl
  | 1, _ =>
    rw [show (2 : Int) ^ min (24 - 8 * ((1 : Nat) : Int)).toNat IntKind.u32.bits = 65536 from rfl, Int.fdiv_eq_ediv_of_nonneg _ (by omega), key _ (by omega) (by omega)]
    rfl
  | 2, _ =>
    rw [show (2 : Int) ^ min (24 - 8 * ((2 : Nat) : Int)).toNat IntKind.u32.bits = 256 from rfl, Int.fdiv_eq_ediv_of_nonneg _ (by omega), key _ (by omega) (by omega)]
    rfl
  | 3, _ =>
    rw [show (2 : Int) ^ min (24 - 8 * ((3 : Nat) : Int)).toNat IntKind.u32.bits = 1 from rfl, Int.fdiv_eq_ediv_of_nonneg _ (by omega), key _ (by omega) (by omega)]
    rfl
set_option maxHeartbeats 1000000 in
theorem adText_s (a : Int) (h0 : 0 ≤ a) (h1 : a < 4294967296) : Fn Tryz.prog 170 [.p (.v (.int .u32 a))] (.p (.v (.string (adT a)))) [] := by
  refine fn_intro Tryz.func170 rfl (Nat.le_of_ble_eq_true rfl) fun w0 A => ?_
  refine awp_seq ?_
  refine tx ?_
  refine aP rfl rfl ?_
  refine arun_nil ?_
  refine awp_seq ?_
  refine tx ?_
  refine aP rfl rfl ?_
  refine arun_nil ?_
  refine awp_seq (awp_seq ?_)
  refine tx ?_
  refine aP rfl rfl ?_
  refine arun_nil ?_
  refine thn_n (awp_re (re_nil 3 100 9 1 rfl rfl) ?_)
  refine awp_block ?_
  refine awp_loopR (fun m st => ∃ k : Nat, m + k = 4 ∧ st = St.of [(0, .p (.v (.int .u32 a))), (3, .row 100), (4, .p (.v (.int .i64 (24 - 8 * (k : Int)))))] [(100, .row 9 1 k (strs ((adTL a).take k)))]) 4 ?_ ?_
  · refine ⟨_, re_of id _ _ ?_ ?_ rfl, 0, by omega, rfl⟩
    · exact (by repeat (first | exact trivial | refine ⟨⟨rfl, rfl⟩, ?_⟩))
    · exact ⟨⟨rfl, rfl⟩, trivial⟩
  rintro m st ⟨k, hk, rfl⟩
  refine awp_seq (awp_seq ?_)
  refine tx ?_
  refine mP rfl rfl ?_
  refine r_pure a_geq rfl rfl ?_
  refine arun_nil ?_
  refine thn_n ?_
  refine awp_cond _ rfl (fun h => ?_) (fun h => ?_)
  · have hlt : k < 4 := by simp at h; omega
    clear h
    have hsh := adSh a h0 h1 hlt
    obtain ⟨p0, p1⟩ := adP_in a k
    have hat := adTL_at a hlt
    have hI := itoa_s (adP a k) (by omega) (by omega)
    have hll : (adTL a).length = 4 := rfl
    have hnx : strs ((adTL a).take k) ++ [.v (.string (itoS (adP a k)))] = strs ((adTL a).take (k + 1)) := by
      obtain ⟨q1, q2⟩ := List.getElem?_eq_some_iff.1 hat
      rw [List.take_succ_eq_append_getElem q1, q2, strs_push]
    have htl : ((adTL a).take k).length = k := by rw [List.length_take, hll]; omega
    generalize itoS (adP a k) = T at *
    generalize adP a k = p at *
    generalize (adTL a).take k = L0 at *
    have hsl : (strs L0).length = k := by rw [strs_len, htl]
    refine awp_skip (awp_seq (awp_block ?_))
    refine tx ?_
    refine r_pure (a_move (r := .row _)) rfl rfl ?_
    refine mP rfl rfl ?_
    refine mP rfl rfl ?_
    refine r_pure (a_shr (by omega) rfl) rfl rfl ?_
    refine r_pure (a_bits (by simp) hsh) rfl rfl ?_
    refine r_pure (a_conv Tryz.underlying50 Tryz.underlying3 (by first | exact IntWalk.i64_in _ (by omega) | rfl)) rfl rfl ?_
    refine r_callS (fun n => 15 + 1000 * n) (hI) rfl rfl Tryz.func113 rfl rfl (by first | rfl | simp [AV.okInL, AV.okIn, okInL_map]) rfl rfl rfl (by first | exact trivial | exact ⟨rfl, trivial⟩ | exact ⟨rfl, rfl, trivial⟩) rfl rfl rfl ?_
    refine r_run (a_buildSlice 16 Tryz.underlying153 sz9 zc9 (Nat.le_of_ble_eq_true rfl) (Nat.le_of_ble_eq_true rfl) rfl rfl rfl rfl (Nat.le_of_ble_eq_true rfl)) rfl rfl ⟨rfl, trivial⟩ ?_
    refine r_run (a_append 17 Tryz.underlying153 eo9 (src_row) (by simp only [maxLen]; omega) (by omega) (show _ = k + 1 by omega) hnx) rfl rfl ⟨rfl, rfl, rfl, trivial⟩ ?_
    refine r_pure (a_assign (r := .row _)) rfl rfl ?_
    refine arun_nil ?_
    refine inb_n (thn_n ?_)
    refine tx ?_
    refine mP rfl rfl ?_
    refine r_pure (a_sub (by first | exact IntWalk.i64_in _ (by omega) | rfl)) rfl rfl ?_
    refine aP rfl rfl ?_
    refine arun_nil ?_
    refine thn_n ?_
    refine ⟨m - 1, by omega, _, re_of (fun _ => 17) _ _ ?_ ?_ rfl, k + 1, by omega, rfl⟩
    · refine ⟨⟨rfl, rfl⟩, ⟨rfl, rfl⟩, ⟨?_, rfl⟩, trivial⟩
      show AV.p (.v (.int .i64 (24 - 8 * (k : Int) - 8))) = AV.p (.v (.int .i64 (24 - 8 * ((k + 1 : Nat) : Int))))
      congr 3; omega
    · exact ⟨⟨rfl, rfl⟩, trivial⟩
  have hge : k = 4 := by simp at h; omega
  clear h
  subst hge
  rw [show (adTL a).take 4 = adTL a from rfl]
  have hz := adT_size a
  have hJ := join_s (adTL a) DOT (by show 4 ≤ _; decide) (by show (adT a).size ≤ _; omega)
  change Fn Tryz.prog 111 [.p (.sl 4 1 (strs (adTL a))), .p (.v (.string ⟨#[46]⟩))] (.p (.v (.string (adT a)))) [] at hJ
  generalize adTL a = L at *
  generalize adT a = T at *
  refine awp_exit (awp_seq ?_)
  refine tx ?_
  refine r_pure (a_move (r := .row _)) rfl rfl ?_
  refine r_callV (fun n => 19 + 1000 * n) (hJ) rfl rfl Tryz.func111 rfl rfl (by first | rfl | simp [AV.noSl, AV.noSlL, AObj.noSl, PV.isV, strs]) (by first | rfl | simp [AV.noSl, AV.noSlL, AObj.noSl, PV.isV, strs]) rfl rfl rfl (by first | exact trivial | exact ⟨rfl, trivial⟩ | exact ⟨rfl, rfl, trivial⟩) rfl rfl rfl ?_
  refine aP rfl rfl ?_
  refine arun_nil ?_
  refine awp_ret ?_
  refine fT (fun o => o) (.tmp _ _ _ _ rfl .nil) ?_ ?_
  · exact rfl
  · exact trivial
set_option maxHeartbeats 1000000 in
theorem refAdText_s (a : Int) (h0 : 0 ≤ a) (h1 : a < 4294967296) : Fn Tryz.prog 150 [.p (.v (.int .u32 a))] (.p (.v (.string (adT a)))) [] := by
  have hI := fun k => itoa_s (adP a k) (by have := (adP_in a k).1; omega) (by have := (adP_in a k).2; omega)
  have hz := fun k => (itoS_size (adP a k) (adP_in a k).1 (by have := (adP_in a k).2; omega)).2
  have i0 := hI 0
  have i1 := hI 1
  have i2 := hI 2
  have i3 := hI 3
  have z0 := hz 0
  have z1 := hz 1
  have z2 := hz 2
  have z3 := hz 3
  have b0 : a.fdiv (2 ^ min (24 : Int).toNat IntKind.u32.bits) = adP a 0 := by
    rw [show (2 : Int) ^ min (24 : Int).toNat IntKind.u32.bits = 16777216 from rfl, Int.fdiv_eq_ediv_of_nonneg _ (by omega)]
    show _ = a / 16777216 % 256
    omega
  have b1 : a.fdiv (2 ^ min (16 : Int).toNat IntKind.u32.bits) = a / 65536 := by
    rw [show (2 : Int) ^ min (16 : Int).toNat IntKind.u32.bits = 65536 from rfl, Int.fdiv_eq_ediv_of_nonneg _ (by omega)]
  have b2 : a.fdiv (2 ^ min (8 : Int).toNat IntKind.u32.bits) = a / 256 := by
    rw [show (2 : Int) ^ min (8 : Int).toNat IntKind.u32.bits = 256 from rfl, Int.fdiv_eq_ediv_of_nonneg _ (by omega)]
  have cv0 : IntKind.i64.wrap (adP a 0) = adP a 0 := IntWalk.i64_in _ (by have := adP_in a 0; omega)
  have cv1 : IntKind.i64.wrap (a / 65536 % 256) = adP a 1 := IntWalk.i64_in _ (by omega)
  have cv2 : IntKind.i64.wrap (a / 256 % 256) = adP a 2 := IntWalk.i64_in _ (by omega)
  have cv3 : IntKind.i64.wrap (a % 256) = adP a 3 := by
    rw [IntWalk.i64_in _ (by omega)]
    show _ = a / 1 % 256
    omega
  rw [adT_eq]
  generalize adP a 0 = p0 at *
  generalize adP a 1 = p1 at *
  generalize adP a 2 = p2 at *
  generalize adP a 3 = p3 at *
  generalize itoS p0 = t0 at *
  generalize itoS p1 = t1 at *
  generalize itoS p2 = t2 at *
  generalize itoS p3 = t3 at *
  have hd : DOT.size = 1 := rfl
  obtain ⟨u0, e0⟩ : ∃ u, t0 ++ DOT = u := ⟨_, rfl⟩
  have y0 : u0.size ≤ 6 := by rw [← e0, cat_size]; omega
  obtain ⟨u1, e1⟩ : ∃ u, u0 ++ t1 = u := ⟨_, rfl⟩
  have y1 : u1.size ≤ 11 := by rw [← e1, cat_size]; omega
  obtain ⟨u2, e2⟩ : ∃ u, u1 ++ DOT = u := ⟨_, rfl⟩
  have y2 : u2.size ≤ 12 := by rw [← e2, cat_size]; omega
  obtain ⟨u3, e3⟩ : ∃ u, u2 ++ t2 = u := ⟨_, rfl⟩
  have y3 : u3.size ≤ 17 := by rw [← e3, cat_size]; omega
  obtain ⟨u4, e4⟩ : ∃ u, u3 ++ DOT = u := ⟨_, rfl⟩
  have y4 : u4.size ≤ 18 := by rw [← e4, cat_size]; omega
  rw [e0, e1, e2, e3, e4]
  have ed : (⟨#[46]⟩ : ByteArray) = DOT := rfl
  have hd1 : (⟨#[46]⟩ : ByteArray).size = 1 := rfl
  refine fn_intro Tryz.func150 rfl (Nat.le_of_ble_eq_true rfl) fun w0 A => ?_
  refine awp_seq ?_
  refine tx ?_
  refine aP rfl rfl ?_
  refine arun_nil ?_
  refine awp_seq ?_
  refine tx ?_
  refine mP rfl rfl ?_
  refine r_pure (a_shr (by omega) b0) rfl rfl ?_
  refine r_pure (a_conv Tryz.underlying50 Tryz.underlying3 cv0) rfl rfl ?_
  refine r_callS (fun n => 6 + 1000 * n) (i0) rfl rfl Tryz.func113 rfl rfl (by first | rfl | simp [AV.okInL, AV.okIn, okInL_map]) rfl rfl rfl (by first | exact trivial | exact ⟨rfl, trivial⟩ | exact ⟨rfl, rfl, trivial⟩) rfl rfl rfl ?_
  refine r_pure (a_cat (by omega) e0) rfl rfl ?_
  refine mP rfl rfl ?_
  refine r_pure (a_shr (by omega) b1) rfl rfl ?_
  refine r_pure (a_rem (by omega) (by first | exact IntWalk.rem_in _ _ (by omega) | rfl)) rfl rfl ?_
  refine r_pure (a_conv Tryz.underlying50 Tryz.underlying3 cv1) rfl rfl ?_
  refine r_callS (fun n => 12 + 1000 * n) (i1) rfl rfl Tryz.func113 rfl rfl (by first | rfl | simp [AV.okInL, AV.okIn, okInL_map]) rfl rfl rfl (by first | exact trivial | exact ⟨rfl, trivial⟩ | exact ⟨rfl, rfl, trivial⟩) rfl rfl rfl ?_
  refine r_pure (a_cat (by omega) e1) rfl rfl ?_
  refine r_pure (a_cat (by omega) e2) rfl rfl ?_
  refine mP rfl rfl ?_
  refine r_pure (a_shr (by omega) b2) rfl rfl ?_
  refine r_pure (a_rem (by omega) (by first | exact IntWalk.rem_in _ _ (by omega) | rfl)) rfl rfl ?_
  refine r_pure (a_conv Tryz.underlying50 Tryz.underlying3 cv2) rfl rfl ?_
  refine r_callS (fun n => 19 + 1000 * n) (i2) rfl rfl Tryz.func113 rfl rfl (by first | rfl | simp [AV.okInL, AV.okIn, okInL_map]) rfl rfl rfl (by first | exact trivial | exact ⟨rfl, trivial⟩ | exact ⟨rfl, rfl, trivial⟩) rfl rfl rfl ?_
  refine r_pure (a_cat (by omega) e3) rfl rfl ?_
  refine r_pure (a_cat (by omega) e4) rfl rfl ?_
  refine mP rfl rfl ?_
  refine r_pure (a_rem (by omega) (by first | exact IntWalk.rem_in _ _ (by omega) | rfl)) rfl rfl ?_
  refine r_pure (a_conv Tryz.underlying50 Tryz.underlying3 cv3) rfl rfl ?_
  refine r_callS (fun n => 25 + 1000 * n) (i3) rfl rfl Tryz.func113 rfl rfl (by first | rfl | simp [AV.okInL, AV.okIn, okInL_map]) rfl rfl rfl (by first | exact trivial | exact ⟨rfl, trivial⟩ | exact ⟨rfl, rfl, trivial⟩) rfl rfl rfl ?_
  refine r_pure (a_cat (by omega) rfl) rfl rfl ?_
  refine aP rfl rfl ?_
  refine arun_nil ?_
  refine awp_ret ?_
  refine fT (fun o => o) (.tmp _ _ _ _ rfl .nil) ?_ ?_
  · exact rfl
  · exact trivial
end Go.Proofs.YtgpleldhddpcgaaGreatDoor
