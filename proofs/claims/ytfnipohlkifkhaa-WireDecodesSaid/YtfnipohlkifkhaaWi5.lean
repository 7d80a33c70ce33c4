/- wire.Decode and its reference, over data. -/
import Derived.Test.YtfnipohlkifkhaaWi3
import Derived.Test.YtfnipohlkifkhaaMp
namespace Go.Proofs.Ytfnipohlkifkhaa
open Go.RowKit Go.Sort
set_option linter.unusedVariables false
set_option linter.unusedSimpArgs false
set_option maxRecDepth 100000

/-- the last k of m bytes as a number, the lowest one first -/
def vK (ys : List Int) (m : Nat) : Nat → Nat
  | 0 => 0
  | k + 1 => vK ys m k * 256 + bN ys (m - 1 - k)
def nv (ys : List Int) (m : Nat) : Int := IntKind.i64.wrap (vK ys m m : Nat)
theorem bN_take (ys : List Int) (m i : Nat) (h : i < m) : bN (ys.take m) i = bN ys i := by
  unfold bN
  rw [List.getD_eq_getElem?_getD, List.getD_eq_getElem?_getD, List.getElem?_take, if_pos h]
theorem vK_take (ys : List Int) (m k : Nat) (h : k ≤ m) : vK (ys.take m) m k = vK ys m k := by
  induction k with
  | zero => rfl
  | succ k ih => rw [vK, vK, ih (by omega), bN_take _ _ _ (by omega)]
theorem nv_take (ys : List Int) (m : Nat) : nv (ys.take m) m = nv ys m := by unfold nv; rw [vK_take _ _ _ (Nat.le_refl _)]
theorem wrap_bits (x : Int) : BitVec.ofInt 64 (IntKind.i64.wrap x) = BitVec.ofInt 64 x := by
  apply BitVec.eq_of_toInt_eq
  rw [BitVec.toInt_ofInt, BitVec.toInt_ofInt, IntKind.wrap_i64]
  simp only [Int.bmod_def]
  omega
theorem shl8 (v : Nat) : IntKind.i64.wrap (IntKind.i64.wrap (v : Int) * 2 ^ min (8 : Int).toNat IntKind.i64.bits) = IntKind.i64.wrap ((v * 256 : Nat) : Int) := by
  rw [show (2 : Int) ^ min (8 : Int).toNat IntKind.i64.bits = 256 from rfl, IntKind.wrap_i64, IntKind.wrap_i64, IntKind.wrap_i64]; omega
theorem or8 (v b : Nat) (hb : b < 256) : bits .or .i64 (IntKind.i64.wrap ((v * 256 : Nat) : Int)) (b : Int) = IntKind.i64.wrap ((v * 256 + b : Nat) : Int) := by
  have h1 : (BitVec.ofInt 64 (IntKind.i64.wrap ((v * 256 : Nat) : Int))).toNat = (v % 2 ^ 56) * 2 ^ 8 := by
    rw [wrap_bits, BitVec.ofInt_natCast, BitVec.toNat_ofNat]; omega
  have h2 : (BitVec.ofInt 64 (b : Int)).toNat = b := by
    rw [BitVec.ofInt_natCast, BitVec.toNat_ofNat]; exact Nat.mod_eq_of_lt (by omega)
  show IntKind.i64.wrap ((BitVec.ofInt 64 (IntKind.i64.wrap ((v * 256 : Nat) : Int)) ||| BitVec.ofInt 64 (b : Int)).toNat : Int) = _
  rw [BitVec.toNat_or, h1, h2, or_add (v % 2 ^ 56) b 8 (by omega), IntKind.wrap_i64, IntKind.wrap_i64]
  omega
theorem add8 (v b : Nat) (hb : b < 256) : IntKind.i64.wrap (IntKind.i64.wrap ((v * 256 : Nat) : Int) + (b : Int)) = IntKind.i64.wrap ((v * 256 + b : Nat) : Int) := by
  rw [IntKind.wrap_i64, IntKind.wrap_i64, IntKind.wrap_i64]; omega

def nS (sh : Bool) (k w : Nat) : Bool := sh || decide (k < w)
def nK (sh : Bool) (k w : Nat) : Nat := if nS sh k w = true then k else k - w
def nY (sh : Bool) (k w : Nat) (ys : List Int) : List Int := if nS sh k w = true then ys else ys.drop w
def nV (sh : Bool) (k w : Nat) (ys : List Int) : Int := if nS sh k w = true then 0 else nv ys w
theorem nS_false {sh : Bool} {k w : Nat} {ys : List Int} (h : nS sh k w = false) : sh = false ∧ w ≤ k ∧ nK sh k w = k - w ∧ nY sh k w ys = ys.drop w ∧ nV sh k w ys = nv ys w := by
  have h' := h
  unfold nS at h'
  simp at h'
  refine ⟨h'.1, h'.2, ?_, ?_, ?_⟩
  · unfold nK; rw [h]; rfl
  · unfold nY; rw [h]; rfl
  · unfold nV; rw [h]; rfl
def tkB (k : Nat) (ys : List Int) (sh : Bool) : AObj := .box 123 [.p (.sl k 1 (bs ys)), .p (.v (.bool sh))]

set_option maxHeartbeats 2000000 in
theorem taker_s (w k : Nat) (ys : List Int) (sh : Bool) (hy : ys.length = k) (hB : isB ys) (hk : k ≤ 140737488355328) (hw : w ≤ 8) : FnO Try.prog 95 [.ref 1 0, .p (.v (.int .i64 w))] [(1, .live (tkB k ys sh))] [(1, .live (tkB (nK sh k w) (nY sh k w ys) (nS sh k w)))] (.p (.v (.int .i64 (nV sh k w ys)))) := by
  unfold tkB nK nY nV
  have hS : nS sh k w = (sh || decide ((k : Int) < (w : Int))) := by unfold nS; congr 1; exact decide_eq_decide.2 (by omega)
  by_cases hsh : nS sh k w = true
  · rw [if_pos hsh, if_pos hsh, if_pos hsh]
    rw [hS] at hsh ⊢
    refine fnO_intro Try.func95 rfl (Nat.le_of_ble_eq_true rfl) fun w0 A heap => ?_
    refine awp_seq ?_
    refine awp_text (by kernel_rfl) ?_
    (refine r_pure (a_assign (r := .p _)) rfl rfl ?_)
    refine arun_nil ?_
    refine awp_seq (awp_seq ?_)
    refine awp_text (by kernel_rfl) ?_
    (refine r_pure (a_move (r := .ref _ _)) rfl rfl ?_)
    (refine r_pure (a_move (r := .ref _ _)) rfl rfl ?_)
    (refine r_pure a_nilRef rfl rfl ?_)
    (refine r_pure (b_fieldAddr fi123_1 rfl) rfl rfl ?_)
    (refine r_run (a_load1 Try.underlying4 rfl (by first | rfl | assumption)) rfl rfl ⟨rfl, trivial⟩ ?_)
    (refine r_pure (a_move (r := .p _)) rfl rfl ?_)
    (refine r_mb2 _ rfl rfl (by (repeat (first | exact stripOK_nil | refine stripOK_mb id ?_ | refine stripOK_p ?_ | refine stripOK_ref ?_ | refine stripOK_row ?_ | refine stripOK_ptr ?_ | refine stripOK_agg ?_ | refine stripOK_mb (by simp_all) ?_ | refine StripOK.plain _ _ rfl ?_))) (fun hb => (a_move (r := .ref _ _))) (fun _ => trivial) ?_)
    (refine r_mb2 _ rfl rfl (by (repeat (first | exact stripOK_nil | refine stripOK_mb id ?_ | refine stripOK_p ?_ | refine stripOK_ref ?_ | refine stripOK_row ?_ | refine stripOK_ptr ?_ | refine stripOK_agg ?_ | refine stripOK_mb (by simp_all) ?_ | refine StripOK.plain _ _ rfl ?_))) (fun hb => a_nilRef) (fun _ => trivial) ?_)
    (refine r_mb2 _ rfl rfl (by (repeat (first | exact stripOK_nil | refine stripOK_mb id ?_ | refine stripOK_p ?_ | refine stripOK_ref ?_ | refine stripOK_row ?_ | refine stripOK_ptr ?_ | refine stripOK_agg ?_ | refine stripOK_mb (by simp_all) ?_ | refine StripOK.plain _ _ rfl ?_))) (fun hb => (b_fieldAddr fi123_0 rfl)) (fun _ => trivial) ?_)
    (refine r_mb2 _ rfl rfl (by (repeat (first | exact stripOK_nil | refine stripOK_mb id ?_ | refine stripOK_p ?_ | refine stripOK_ref ?_ | refine stripOK_row ?_ | refine stripOK_ptr ?_ | refine stripOK_agg ?_ | refine stripOK_mb (by simp_all) ?_ | refine StripOK.plain _ _ rfl ?_))) (fun hb => (a_load1 Try.underlying42 rfl (by first | rfl | assumption))) (fun _ => ⟨rfl, trivial⟩) ?_)
    (refine r_mb2 _ rfl rfl (by (repeat (first | exact stripOK_nil | refine stripOK_mb id ?_ | refine stripOK_p ?_ | refine stripOK_ref ?_ | refine stripOK_row ?_ | refine stripOK_ptr ?_ | refine stripOK_agg ?_ | refine stripOK_mb (by simp_all) ?_ | refine StripOK.plain _ _ rfl ?_))) (fun hb => (a_lenS Try.underlying42)) (fun _ => trivial) ?_)
    (refine r_mb2 _ rfl rfl (by (repeat (first | exact stripOK_nil | refine stripOK_mb id ?_ | refine stripOK_p ?_ | refine stripOK_ref ?_ | refine stripOK_row ?_ | refine stripOK_ptr ?_ | refine stripOK_agg ?_ | refine stripOK_mb (by simp_all) ?_ | refine StripOK.plain _ _ rfl ?_))) (fun hb => (a_move (r := .p _))) (fun _ => trivial) ?_)
    (refine r_mb2 _ rfl rfl (by (repeat (first | exact stripOK_nil | refine stripOK_mb id ?_ | refine stripOK_p ?_ | refine stripOK_ref ?_ | refine stripOK_row ?_ | refine stripOK_ptr ?_ | refine stripOK_agg ?_ | refine stripOK_mb (by simp_all) ?_ | refine StripOK.plain _ _ rfl ?_))) (fun hb => a_lss) (fun _ => trivial) ?_)
    (refine r_pure (a_or (by first | exact id | (simp; done) | grind)) rfl rfl ?_)
    (refine r_pure a_nilRef rfl rfl ?_)
    (refine r_pure (b_fieldAddr fi123_1 rfl) rfl rfl ?_)
    (refine r_run (a_store (Y := .p _) sz4 rfl (by first | exact Nat.eq_of_beq_eq_true rfl | (simp only [AV.cells, List.length_map]; first | assumption | omega)) (by first | exact Nat.le_of_ble_eq_true rfl | omega | (simp only [AV.cells, List.length_map]; omega)) (by first | (simp only [setR, AV.cells, List.take_succ_cons, List.take_zero, List.drop_succ_cons, List.drop_zero, List.drop_nil, List.take_nil, List.nil_append, List.cons_append, List.append_nil, List.length_cons, List.length_nil, Nat.reduceAdd, Nat.zero_add, Nat.add_zero]; rfl) | rfl)) rfl rfl ⟨rfl, trivial⟩ ?_)
    refine arun_nil ?_
    refine awp_seq ?_
    refine awp_text (by kernel_rfl) ?_
    (refine r_pure (a_move (r := .ref _ _)) rfl rfl ?_)
    (refine r_pure a_nilRef rfl rfl ?_)
    (refine r_pure (b_fieldAddr fi123_1 rfl) rfl rfl ?_)
    (refine r_run (a_load1 Try.underlying4 rfl (by first | rfl | assumption)) rfl rfl ⟨rfl, trivial⟩ ?_)
    refine arun_nil ?_
    refine thn_n ?_
    refine awp_cond _ rfl (fun h => ?_) (fun h => ?_)
    · refine awp_seq ?_
      refine awp_text (by kernel_rfl) ?_
      (refine r_pure (a_assign (r := .p _)) rfl rfl ?_)
      refine arun_nil ?_
      refine awp_ret (thn_r ?_)
      refine ⟨(by first | exact .inl rfl | exact .inr rfl), ⟨_, (.tmp _ _ _ _ rfl .nil), ?_⟩, ?_, ?_⟩
      · exact rfl
      · (repeat (first | exact trivial | refine ⟨rfl, ?_⟩))
      · (intro o ho; simp only [List.any_cons, List.any_nil, Bool.or_false, Bool.or_eq_false_iff] at ho; simp [St.put, St.upd, updL, ho])
    · rw [hsh] at h; cases h
  have hsf : nS sh k w = false := by simpa using hsh
  have hsl : ((bs ys).drop (w * 1)).take ((k - w) * 1) = bs (ys.drop w) := by
    rw [Nat.mul_one, Nat.mul_one, List.take_of_length_le (by rw [List.length_drop, bs_length]; omega)]
    simp [bs]
  obtain ⟨_, hwk, _⟩ := nS_false (ys := ys) hsf
  rw [if_neg hsh, if_neg hsh, if_neg hsh]
  rw [hS] at hsf ⊢
  clear hsh
  refine fnO_intro Try.func95 rfl (Nat.le_of_ble_eq_true rfl) fun w0 A heap => ?_
  refine awp_seq ?_
  refine awp_text (by kernel_rfl) ?_
  (refine r_pure (a_assign (r := .p _)) rfl rfl ?_)
  refine arun_nil ?_
  refine awp_seq (awp_seq ?_)
  refine awp_text (by kernel_rfl) ?_
  (refine r_pure (a_move (r := .ref _ _)) rfl rfl ?_)
  (refine r_pure (a_move (r := .ref _ _)) rfl rfl ?_)
  (refine r_pure a_nilRef rfl rfl ?_)
  (refine r_pure (b_fieldAddr fi123_1 rfl) rfl rfl ?_)
  (refine r_run (a_load1 Try.underlying4 rfl (by first | rfl | assumption)) rfl rfl ⟨rfl, trivial⟩ ?_)
  (refine r_pure (a_move (r := .p _)) rfl rfl ?_)
  (refine r_mb2 _ rfl rfl (by (repeat (first | exact stripOK_nil | refine stripOK_mb id ?_ | refine stripOK_p ?_ | refine stripOK_ref ?_ | refine stripOK_row ?_ | refine stripOK_ptr ?_ | refine stripOK_agg ?_ | refine stripOK_mb (by simp_all) ?_ | refine StripOK.plain _ _ rfl ?_))) (fun hb => (a_move (r := .ref _ _))) (fun _ => trivial) ?_)
  (refine r_mb2 _ rfl rfl (by (repeat (first | exact stripOK_nil | refine stripOK_mb id ?_ | refine stripOK_p ?_ | refine stripOK_ref ?_ | refine stripOK_row ?_ | refine stripOK_ptr ?_ | refine stripOK_agg ?_ | refine stripOK_mb (by simp_all) ?_ | refine StripOK.plain _ _ rfl ?_))) (fun hb => a_nilRef) (fun _ => trivial) ?_)
  (refine r_mb2 _ rfl rfl (by (repeat (first | exact stripOK_nil | refine stripOK_mb id ?_ | refine stripOK_p ?_ | refine stripOK_ref ?_ | refine stripOK_row ?_ | refine stripOK_ptr ?_ | refine stripOK_agg ?_ | refine stripOK_mb (by simp_all) ?_ | refine StripOK.plain _ _ rfl ?_))) (fun hb => (b_fieldAddr fi123_0 rfl)) (fun _ => trivial) ?_)
  (refine r_mb2 _ rfl rfl (by (repeat (first | exact stripOK_nil | refine stripOK_mb id ?_ | refine stripOK_p ?_ | refine stripOK_ref ?_ | refine stripOK_row ?_ | refine stripOK_ptr ?_ | refine stripOK_agg ?_ | refine stripOK_mb (by simp_all) ?_ | refine StripOK.plain _ _ rfl ?_))) (fun hb => (a_load1 Try.underlying42 rfl (by first | rfl | assumption))) (fun _ => ⟨rfl, trivial⟩) ?_)
  (refine r_mb2 _ rfl rfl (by (repeat (first | exact stripOK_nil | refine stripOK_mb id ?_ | refine stripOK_p ?_ | refine stripOK_ref ?_ | refine stripOK_row ?_ | refine stripOK_ptr ?_ | refine stripOK_agg ?_ | refine stripOK_mb (by simp_all) ?_ | refine StripOK.plain _ _ rfl ?_))) (fun hb => (a_lenS Try.underlying42)) (fun _ => trivial) ?_)
  (refine r_mb2 _ rfl rfl (by (repeat (first | exact stripOK_nil | refine stripOK_mb id ?_ | refine stripOK_p ?_ | refine stripOK_ref ?_ | refine stripOK_row ?_ | refine stripOK_ptr ?_ | refine stripOK_agg ?_ | refine stripOK_mb (by simp_all) ?_ | refine StripOK.plain _ _ rfl ?_))) (fun hb => (a_move (r := .p _))) (fun _ => trivial) ?_)
  (refine r_mb2 _ rfl rfl (by (repeat (first | exact stripOK_nil | refine stripOK_mb id ?_ | refine stripOK_p ?_ | refine stripOK_ref ?_ | refine stripOK_row ?_ | refine stripOK_ptr ?_ | refine stripOK_agg ?_ | refine stripOK_mb (by simp_all) ?_ | refine StripOK.plain _ _ rfl ?_))) (fun hb => a_lss) (fun _ => trivial) ?_)
  (refine r_pure (a_or (by first | exact id | (simp; done) | grind)) rfl rfl ?_)
  (refine r_pure a_nilRef rfl rfl ?_)
  (refine r_pure (b_fieldAddr fi123_1 rfl) rfl rfl ?_)
  (refine r_run (a_store (Y := .p _) sz4 rfl (by first | exact Nat.eq_of_beq_eq_true rfl | (simp only [AV.cells, List.length_map]; first | assumption | omega)) (by first | exact Nat.le_of_ble_eq_true rfl | omega | (simp only [AV.cells, List.length_map]; omega)) (by first | (simp only [setR, AV.cells, List.take_succ_cons, List.take_zero, List.drop_succ_cons, List.drop_zero, List.drop_nil, List.take_nil, List.nil_append, List.cons_append, List.append_nil, List.length_cons, List.length_nil, Nat.reduceAdd, Nat.zero_add, Nat.add_zero]; rfl) | rfl)) rfl rfl ⟨rfl, trivial⟩ ?_)
  refine arun_nil ?_
  refine awp_seq ?_
  refine awp_text (by kernel_rfl) ?_
  (refine r_pure (a_move (r := .ref _ _)) rfl rfl ?_)
  (refine r_pure a_nilRef rfl rfl ?_)
  (refine r_pure (b_fieldAddr fi123_1 rfl) rfl rfl ?_)
  (refine r_run (a_load1 Try.underlying4 rfl (by first | rfl | assumption)) rfl rfl ⟨rfl, trivial⟩ ?_)
  refine arun_nil ?_
  refine thn_n ?_
  refine awp_cond _ rfl (fun h => ?_) (fun h => ?_)
  · rw [hsf] at h; cases h
  clear h
  rw [hsf]
  refine awp_skip (awp_seq ?_)
  refine awp_text (by kernel_rfl) ?_
  (refine r_pure (a_assign (r := .p _)) rfl rfl ?_)
  refine arun_nil ?_
  refine awp_seq (awp_seq ?_)
  refine awp_text (by kernel_rfl) ?_
  (refine r_pure (a_move (r := .p _)) rfl rfl ?_)
  (refine r_pure (a_sub (by first | exact IntWalk.i64_in _ (by omega) | rfl)) rfl rfl ?_)
  (refine r_pure (a_assign (r := .p _)) rfl rfl ?_)
  refine arun_nil ?_
  refine awp_block ?_
  refine awp_loopO (fun m st => ∃ j : Nat, m + j = w ∧ st = ⟨lookT [(0, .ref 1 0), (1, .p (.v (.int .i64 w))), (5, .p (.v (.int .i64 (IntKind.i64.wrap (vK ys w j : Nat))))), (6, .p (.v (.int .i64 ((w : Int) - 1 - j))))], updL heap [(1, .live (.box 123 [.p (.sl k 1 (bs ys)), .p (.v (.bool false))]))]⟩) w ?_ ?_
  · refine ⟨_, reo_of _ _ ?_ (fun o => .inl ?_), 0, by omega, rfl⟩
    · refine ⟨rfl, rfl, rfl, ?_, trivial⟩
      show AV.p (.v (.int .i64 ((w : Int) - 1))) = AV.p (.v (.int .i64 ((w : Int) - 1 - ((0 : Nat) : Int))))
      congr 3; omega
    · by_cases e : Nat.beq o 1 = true <;> simp [St.put, St.upd, updL, e]
  rintro m st ⟨j, hj, rfl⟩
  refine awp_seq (awp_seq ?_)
  refine awp_text (by kernel_rfl) ?_
  (refine r_pure (a_move (r := .p _)) rfl rfl ?_)
  (refine r_pure a_geq rfl rfl ?_)
  refine arun_nil ?_
  refine thn_n ?_
  refine awp_cond _ rfl (fun h => ?_) (fun h => ?_)
  · have hlt : j < w := by simp at h; omega
    clear h
    have g1 := bN_at hB (i := w - 1 - j) (by omega)
    have b1 := bN_lt hB (w - 1 - j)
    have e1 : vK ys w (j + 1) = vK ys w j * 256 + bN ys (w - 1 - j) := rfl
    generalize bN ys (w - 1 - j) = y at *
    obtain ⟨V1, hV1⟩ : ∃ V, V = vK ys w j := ⟨_, rfl⟩
    rw [← hV1] at e1 ⊢
    have f1 := shl8 V1
    have f2 := or8 V1 y b1
    refine awp_skip (awp_seq (awp_block ?_))
    refine awp_text (by kernel_rfl) ?_
    (refine r_pure (a_move (r := .p _)) rfl rfl ?_)
    (refine r_pure (a_shl (by omega) f1) rfl rfl ?_)
    (refine r_pure (a_move (r := .ref _ _)) rfl rfl ?_)
    (refine r_pure a_nilRef rfl rfl ?_)
    (refine r_pure (b_fieldAddr fi123_0 rfl) rfl rfl ?_)
    (refine r_run (a_load1 Try.underlying42 rfl (by first | rfl | assumption)) rfl rfl ⟨rfl, trivial⟩ ?_)
    (refine r_pure (a_move (r := .p _)) rfl rfl ?_)
    (refine r_pure (a_indexAddrS Try.underlying42 sz5 (by omega) (by omega) (show _ = (bs ys).drop (w - 1 - j) by rw [Nat.mul_one]; congr 1; omega)) rfl rfl ?_)
    (refine r_pure (a_load1p Try.underlying5 rfl (by rw [List.getElem?_drop]; exact g1)) rfl rfl ?_)
    (refine r_pure (a_conv Try.underlying5 Try.underlying3 (by first | exact IntWalk.i64_in _ (by omega) | rfl)) rfl rfl ?_)
    (refine r_pure (a_bits (by simp) f2) rfl rfl ?_)
    (refine r_pure (a_assign (r := .p _)) rfl rfl ?_)
    refine arun_nil ?_
    refine inb_n (thn_n ?_)
    refine awp_text (by kernel_rfl) ?_
    (refine r_pure (a_move (r := .p _)) rfl rfl ?_)
    (refine r_pure (a_sub (by first | exact IntWalk.i64_in _ (by omega) | rfl)) rfl rfl ?_)
    (refine r_pure (a_assign (r := .p _)) rfl rfl ?_)
    refine arun_nil ?_
    refine thn_n ?_
    refine ⟨m - 1, by omega, _, reo_of _ _ ?_ (fun o => .inl ?_), j + 1, by omega, rfl⟩
    · rw [e1]
      refine ⟨rfl, rfl, rfl, ?_, trivial⟩
      show AV.p (.v (.int .i64 ((w : Int) - 1 - (j : Int) - 1))) = AV.p (.v (.int .i64 ((w : Int) - 1 - ((j + 1 : Nat) : Int))))
      congr 3; omega
    · by_cases e : Nat.beq o 1 = true <;> simp [St.put, St.upd, updL, e]
  have hge : j = w := by simp at h; omega
  clear h
  subst hge
  refine awp_exit (awp_seq ?_)
  refine awp_text (by kernel_rfl) ?_
  (refine r_pure (a_move (r := .ref _ _)) rfl rfl ?_)
  (refine r_pure (a_move (r := .ref _ _)) rfl rfl ?_)
  (refine r_pure a_nilRef rfl rfl ?_)
  (refine r_pure (b_fieldAddr fi123_0 rfl) rfl rfl ?_)
  (refine r_run (a_load1 Try.underlying42 rfl (by first | rfl | assumption)) rfl rfl ⟨rfl, trivial⟩ ?_)
  (refine r_pure (a_move (r := .p _)) rfl rfl ?_)
  (refine r_pure (a_sliceS (L := (some (_, _))) (H := none) Try.underlying42 sz5 ⟨by omega, (show _ = j by omega)⟩ rfl (by omega) (by omega) (show _ = k - j by omega) hsl) rfl rfl ?_)
  (refine r_pure a_nilRef rfl rfl ?_)
  (refine r_pure (b_fieldAddr fi123_0 rfl) rfl rfl ?_)
  (refine r_run (a_store (Y := .p _) sz42 rfl (by first | exact Nat.eq_of_beq_eq_true rfl | (simp only [AV.cells, List.length_map]; first | assumption | omega)) (by first | exact Nat.le_of_ble_eq_true rfl | omega | (simp only [AV.cells, List.length_map]; omega)) (by first | (simp only [setR, AV.cells, List.take_succ_cons, List.take_zero, List.drop_succ_cons, List.drop_zero, List.drop_nil, List.take_nil, List.nil_append, List.cons_append, List.append_nil, List.length_cons, List.length_nil, Nat.reduceAdd, Nat.zero_add, Nat.add_zero]; rfl) | rfl)) rfl rfl ⟨rfl, trivial⟩ ?_)
  refine arun_nil ?_
  refine awp_seq ?_
  refine awp_text (by kernel_rfl) ?_
  (refine r_pure (a_move (r := .p _)) rfl rfl ?_)
  (refine r_pure (a_assign (r := .p _)) rfl rfl ?_)
  refine arun_nil ?_
  refine awp_ret ?_
  refine ⟨(by first | exact .inl rfl | exact .inr rfl), ⟨_, (.tmp _ _ _ _ rfl .nil), ?_⟩, ?_, ?_⟩
  · exact rfl
  · (repeat (first | exact trivial | refine ⟨rfl, ?_⟩))
  · (intro o ho; simp only [List.any_cons, List.any_nil, Bool.or_false, Bool.or_eq_false_iff] at ho; simp [St.put, St.upd, updL, ho])

def MS0 : List AV := [.p (.v (.int .i64 0)), .p (.v (.int .i64 0)), .p (.v (.int .i64 0)), .p (.v (.int .i64 0)), .p (.v (.slice none 0 0))]
noncomputable def wdV (e : Int) (m : MS) : AV := if e = 0 then .tup [.agg m.cells, .p (.v (.int .i64 e))] else .tup [.agg MS0, .p (.v (.int .i64 e))]
theorem wdV_bad {e : Int} {m : MS} (h : e ≠ 0) : wdV e m = .tup [.agg MS0, .p (.v (.int .i64 e))] := if_neg h
theorem wdV_good {e : Int} {m : MS} (h : e = 0) : wdV e m = .tup [.agg m.cells, .p (.v (.int .i64 0))] := by unfold wdV; rw [if_pos h, h]
def wd1 (n : Nat) (xs : List Int) : MS := ⟨1, nv (xs.drop 4) 4, 0, 0, n - 8, xs.drop 8⟩
def wd2 (n : Nat) (xs : List Int) : MS := ⟨2, nv (xs.drop 4) 4, nv (xs.drop 8) 4, 0, n - 12, xs.drop 12⟩
def wd4 (n : Nat) (xs : List Int) : MS := ⟨4, 0, nv (xs.drop 4) 4, nv (xs.drop 8) 8, n - 16, xs.drop 16⟩
theorem bs_cut {xs : List Int} {n a k : Nat} (hx : xs.length = n) (hk : n - a = k) : ((bs xs).drop (a * 1)).take (k * 1) = bs (xs.drop a) := by
  rw [Nat.mul_one, Nat.mul_one, List.take_of_length_le (by rw [List.length_drop, bs_length]; omega)]
  simp [bs]
theorem isB_drop' {xs : List Int} (h : isB xs) (a : Nat) : isB (xs.drop a) := fun x hx => h x (List.mem_of_mem_drop hx)
theorem bs_mid (xs : List Int) (a k : Nat) : ((bs xs).drop (a * 1)).take (k * 1) = bs ((xs.drop a).take k) := by simp [bs, List.map_take]

/-! what is wrong ahead of the numbers -/
theorem wdec_short (n : Nat) (xs : List Int) (hn : n < 4) : Fn Try.prog 50 [.p (.sl n 1 (bs xs))] (.tup [.agg MS0, .p (.v (.int .i64 8))]) [] := by
  refine fn_intro Try.func50 rfl (Nat.le_of_ble_eq_true rfl) fun w0 A => ?_
  refine awp_seq ?_
  refine awp_text (by kernel_rfl) ?_
  (refine r_run (a_alloc 2 zr66 rfl) rfl rfl ⟨rfl, trivial⟩ ?_)
  (refine r_pure (a_assign (r := .p _)) rfl rfl ?_)
  refine arun_nil ?_
  refine awp_seq (awp_seq ?_)
  refine awp_text (by kernel_rfl) ?_
  (refine r_pure (a_move (r := .p _)) rfl rfl ?_)
  (refine r_pure (a_lenS Try.underlying42) rfl rfl ?_)
  (refine r_pure a_lss rfl rfl ?_)
  refine arun_nil ?_
  refine thn_n ?_
  refine awp_cond _ rfl (fun h => ?_) (fun h => ?_)
  · refine awp_seq ?_
    refine awp_text (by kernel_rfl) ?_
    (refine r_pure (b_build pl66 zr66 rfl rfl) rfl rfl ?_)
    (refine r_run (a_storeAll (Y := .agg _) sz66 rfl (by first | exact Nat.eq_of_beq_eq_true rfl | (simp only [AV.cells, List.length_map]; first | assumption | omega)) (Nat.eq_of_beq_eq_true rfl)) rfl rfl ⟨rfl, trivial⟩ ?_)
    (refine r_pure (a_assign (r := .p _)) rfl rfl ?_)
    refine arun_nil ?_
    refine awp_ret (thn_r ?_)
    refine ⟨(by first | exact .inl rfl | exact .inr rfl), _, (fun o => o), (.cellN _ _ _ _ _ _ _ _ _ rfl rfl Try.underlying66 rfl sz66 (by first | assumption | kernel_rfl) (.tmp _ _ _ _ rfl .nil)), ?_, rfl, ?_, rfl⟩
    · exact rfl
    · exact trivial
  · simp at h; omega
set_option maxHeartbeats 1000000 in
theorem wdec_kind (n : Nat) (xs : List Int) (hx : xs.length = n) (hB : isB xs) (hn : 4 ≤ n) (hk : (ofS (bN xs 0 : Nat)).ok = false) : Fn Try.prog 50 [.p (.sl n 1 (bs xs))] (.tup [.agg MS0, .p (.v (.int .i64 2))]) [] := by
  have g0 := bN_at hB (i := 0) (by omega)
  have b0 := bN_lt hB 0
  have hO := of_s (bN xs 0 : Nat)
  generalize bN xs 0 = y0 at *
  generalize ofS (y0 : Nat) = x at *
  refine fn_intro Try.func50 rfl (Nat.le_of_ble_eq_true rfl) fun w0 A => ?_
  refine awp_seq ?_
  refine awp_text (by kernel_rfl) ?_
  (refine r_run (a_alloc 2 zr66 rfl) rfl rfl ⟨rfl, trivial⟩ ?_)
  (refine r_pure (a_assign (r := .p _)) rfl rfl ?_)
  refine arun_nil ?_
  refine awp_seq (awp_seq ?_)
  refine awp_text (by kernel_rfl) ?_
  (refine r_pure (a_move (r := .p _)) rfl rfl ?_)
  (refine r_pure (a_lenS Try.underlying42) rfl rfl ?_)
  (refine r_pure a_lss rfl rfl ?_)
  refine arun_nil ?_
  refine thn_n ?_
  refine awp_cond _ rfl (fun h => ?_) (fun h => ?_)
  · simp at h; omega
  clear h
  refine awp_skip (awp_seq ?_)
  refine awp_text (by kernel_rfl) ?_
  (refine r_pure (a_move (r := .p _)) rfl rfl ?_)
  (refine r_pure (a_indexAddrS Try.underlying42 sz5 (by omega) (by omega) rfl) rfl rfl ?_)
  (refine r_pure (a_load1p Try.underlying5 rfl (by rw [List.getElem?_drop]; exact g0)) rfl rfl ?_)
  (refine r_pure (a_conv Try.underlying5 Try.underlying3 (by first | exact IntWalk.i64_in _ (by omega) | rfl)) rfl rfl ?_)
  (refine r_callV (fun n => 18 + 1000 * n) (hO) rfl rfl Try.func91 rfl rfl (by first | rfl | simp [AV.noSl, AV.noSlL, AObj.noSl, PV.isV, bs_noSl]) (by first | rfl | simp [AV.noSl, AV.noSlL, AObj.noSl, PV.isV, bs_noSl]) rfl rfl rfl (by first | exact trivial | exact ⟨rfl, trivial⟩ | exact ⟨rfl, rfl, trivial⟩) rfl rfl rfl ?_)
  (refine r_pure (a_move (r := .tup _)) rfl rfl ?_)
  (refine r_pure (a_extract rfl) rfl rfl ?_)
  (refine r_pure (a_extract rfl) rfl rfl ?_)
  (refine r_run (a_alloc 4 zr113 rfl) rfl rfl ⟨rfl, trivial⟩ ?_)
  (refine r_run (a_storeAll (Y := .agg _) sz113 rfl (by first | exact Nat.eq_of_beq_eq_true rfl | (simp only [AV.cells, List.length_map]; first | assumption | omega)) (Nat.eq_of_beq_eq_true rfl)) rfl rfl ⟨rfl, trivial⟩ ?_)
  (refine r_pure (a_assign (r := .p _)) rfl rfl ?_)
  refine arun_nil ?_
  refine awp_seq (awp_seq ?_)
  refine awp_text (by kernel_rfl) ?_
  (refine r_pure (a_move (r := .p _)) rfl rfl ?_)
  (refine r_pure a_not rfl rfl ?_)
  refine arun_nil ?_
  refine thn_n ?_
  refine awp_cond _ rfl (fun h => ?_) (fun h => ?_)
  · refine awp_seq ?_
    refine awp_text (by kernel_rfl) ?_
    (refine r_pure (b_build pl66 zr66 rfl rfl) rfl rfl ?_)
    (refine r_run (a_storeAll (Y := .agg _) sz66 rfl (by first | exact Nat.eq_of_beq_eq_true rfl | (simp only [AV.cells, List.length_map]; first | assumption | omega)) (Nat.eq_of_beq_eq_true rfl)) rfl rfl ⟨rfl, trivial⟩ ?_)
    (refine r_pure (a_assign (r := .p _)) rfl rfl ?_)
    refine arun_nil ?_
    refine awp_ret (thn_r ?_)
    refine ⟨(by first | exact .inl rfl | exact .inr rfl), _, (fun o => o), (.cellN _ _ _ _ _ _ _ _ _ rfl rfl Try.underlying66 rfl sz66 (by first | assumption | kernel_rfl) (.tmp _ _ _ _ rfl .nil)), ?_, rfl, ?_, rfl⟩
    · exact rfl
    · exact trivial
  · rw [hk] at h; cases h
set_option maxHeartbeats 1000000 in
theorem wdec_form (n : Nat) (xs : List Int) (hx : xs.length = n) (hB : isB xs) (hn : 4 ≤ n) (hk : (ofS (bN xs 0 : Nat)).ok = true) (hz : ¬ (bN xs 1 = 0 ∧ bN xs 2 = 0 ∧ bN xs 3 = 0)) : Fn Try.prog 50 [.p (.sl n 1 (bs xs))] (.tup [.agg MS0, .p (.v (.int .i64 3))]) [] := by
  have g0 := bN_at hB (i := 0) (by omega)
  have g1 := bN_at hB (i := 1) (by omega)
  have g2 := bN_at hB (i := 2) (by omega)
  have g3 := bN_at hB (i := 3) (by omega)
  have b0 := bN_lt hB 0
  have hO := of_s (bN xs 0 : Nat)
  generalize bN xs 0 = y0 at *
  generalize bN xs 1 = y1 at *
  generalize bN xs 2 = y2 at *
  generalize bN xs 3 = y3 at *
  generalize ofS (y0 : Nat) = x at *
  refine fn_intro Try.func50 rfl (Nat.le_of_ble_eq_true rfl) fun w0 A => ?_
  refine awp_seq ?_
  refine awp_text (by kernel_rfl) ?_
  (refine r_run (a_alloc 2 zr66 rfl) rfl rfl ⟨rfl, trivial⟩ ?_)
  (refine r_pure (a_assign (r := .p _)) rfl rfl ?_)
  refine arun_nil ?_
  refine awp_seq (awp_seq ?_)
  refine awp_text (by kernel_rfl) ?_
  (refine r_pure (a_move (r := .p _)) rfl rfl ?_)
  (refine r_pure (a_lenS Try.underlying42) rfl rfl ?_)
  (refine r_pure a_lss rfl rfl ?_)
  refine arun_nil ?_
  refine thn_n ?_
  refine awp_cond _ rfl (fun h => ?_) (fun h => ?_)
  · simp at h; omega
  clear h
  refine awp_skip (awp_seq ?_)
  refine awp_text (by kernel_rfl) ?_
  (refine r_pure (a_move (r := .p _)) rfl rfl ?_)
  (refine r_pure (a_indexAddrS Try.underlying42 sz5 (by omega) (by omega) rfl) rfl rfl ?_)
  (refine r_pure (a_load1p Try.underlying5 rfl (by rw [List.getElem?_drop]; exact g0)) rfl rfl ?_)
  (refine r_pure (a_conv Try.underlying5 Try.underlying3 (by first | exact IntWalk.i64_in _ (by omega) | rfl)) rfl rfl ?_)
  (refine r_callV (fun n => 18 + 1000 * n) (hO) rfl rfl Try.func91 rfl rfl (by first | rfl | simp [AV.noSl, AV.noSlL, AObj.noSl, PV.isV, bs_noSl]) (by first | rfl | simp [AV.noSl, AV.noSlL, AObj.noSl, PV.isV, bs_noSl]) rfl rfl rfl (by first | exact trivial | exact ⟨rfl, trivial⟩ | exact ⟨rfl, rfl, trivial⟩) rfl rfl rfl ?_)
  (refine r_pure (a_move (r := .tup _)) rfl rfl ?_)
  (refine r_pure (a_extract rfl) rfl rfl ?_)
  (refine r_pure (a_extract rfl) rfl rfl ?_)
  (refine r_run (a_alloc 4 zr113 rfl) rfl rfl ⟨rfl, trivial⟩ ?_)
  (refine r_run (a_storeAll (Y := .agg _) sz113 rfl (by first | exact Nat.eq_of_beq_eq_true rfl | (simp only [AV.cells, List.length_map]; first | assumption | omega)) (Nat.eq_of_beq_eq_true rfl)) rfl rfl ⟨rfl, trivial⟩ ?_)
  (refine r_pure (a_assign (r := .p _)) rfl rfl ?_)
  refine arun_nil ?_
  refine awp_seq (awp_seq ?_)
  refine awp_text (by kernel_rfl) ?_
  (refine r_pure (a_move (r := .p _)) rfl rfl ?_)
  (refine r_pure a_not rfl rfl ?_)
  refine arun_nil ?_
  refine thn_n ?_
  refine awp_cond _ rfl (fun h => ?_) (fun h => ?_)
  · rw [hk] at h; cases h
  clear h
  refine awp_skip (awp_seq (awp_seq ?_))
  refine awp_text (by kernel_rfl) ?_
  (refine r_pure (a_move (r := .p _)) rfl rfl ?_)
  (refine r_pure (a_indexAddrS Try.underlying42 sz5 (by omega) (by omega) rfl) rfl rfl ?_)
  (refine r_pure (a_load1p Try.underlying5 rfl (by rw [List.getElem?_drop]; exact g1)) rfl rfl ?_)
  (refine r_pure a_neq rfl rfl ?_)
  (refine r_pure (a_move (r := .p _)) rfl rfl ?_)
  (refine r_mb2 _ rfl rfl (by (repeat (first | exact stripOK_nil | refine stripOK_mb id ?_ | refine stripOK_p ?_ | refine stripOK_ref ?_ | refine stripOK_row ?_ | refine stripOK_ptr ?_ | refine stripOK_agg ?_ | refine stripOK_mb (by simp_all) ?_ | refine StripOK.plain _ _ rfl ?_))) (fun hb => (a_move (r := .p _))) (fun _ => trivial) ?_)
  (refine r_mb2 _ rfl rfl (by (repeat (first | exact stripOK_nil | refine stripOK_mb id ?_ | refine stripOK_p ?_ | refine stripOK_ref ?_ | refine stripOK_row ?_ | refine stripOK_ptr ?_ | refine stripOK_agg ?_ | refine stripOK_mb (by simp_all) ?_ | refine StripOK.plain _ _ rfl ?_))) (fun hb => (a_indexAddrS Try.underlying42 sz5 (by omega) (by omega) rfl)) (fun _ => trivial) ?_)
  (refine r_mb2 _ rfl rfl (by (repeat (first | exact stripOK_nil | refine stripOK_mb id ?_ | refine stripOK_p ?_ | refine stripOK_ref ?_ | refine stripOK_row ?_ | refine stripOK_ptr ?_ | refine stripOK_agg ?_ | refine stripOK_mb (by simp_all) ?_ | refine StripOK.plain _ _ rfl ?_))) (fun hb => (a_load1p Try.underlying5 rfl (by rw [List.getElem?_drop]; exact g2))) (fun _ => trivial) ?_)
  (refine r_mb2 _ rfl rfl (by (repeat (first | exact stripOK_nil | refine stripOK_mb id ?_ | refine stripOK_p ?_ | refine stripOK_ref ?_ | refine stripOK_row ?_ | refine stripOK_ptr ?_ | refine stripOK_agg ?_ | refine stripOK_mb (by simp_all) ?_ | refine StripOK.plain _ _ rfl ?_))) (fun hb => a_neq) (fun _ => trivial) ?_)
  (refine r_pure (a_or (by first | exact id | (simp; done) | grind)) rfl rfl ?_)
  (refine r_pure (a_move (r := .p _)) rfl rfl ?_)
  (refine r_mb2 _ rfl rfl (by (repeat (first | exact stripOK_nil | refine stripOK_mb id ?_ | refine stripOK_p ?_ | refine stripOK_ref ?_ | refine stripOK_row ?_ | refine stripOK_ptr ?_ | refine stripOK_agg ?_ | refine stripOK_mb (by simp_all) ?_ | refine StripOK.plain _ _ rfl ?_))) (fun hb => (a_move (r := .p _))) (fun _ => trivial) ?_)
  (refine r_mb2 _ rfl rfl (by (repeat (first | exact stripOK_nil | refine stripOK_mb id ?_ | refine stripOK_p ?_ | refine stripOK_ref ?_ | refine stripOK_row ?_ | refine stripOK_ptr ?_ | refine stripOK_agg ?_ | refine stripOK_mb (by simp_all) ?_ | refine StripOK.plain _ _ rfl ?_))) (fun hb => (a_indexAddrS Try.underlying42 sz5 (by omega) (by omega) rfl)) (fun _ => trivial) ?_)
  (refine r_mb2 _ rfl rfl (by (repeat (first | exact stripOK_nil | refine stripOK_mb id ?_ | refine stripOK_p ?_ | refine stripOK_ref ?_ | refine stripOK_row ?_ | refine stripOK_ptr ?_ | refine stripOK_agg ?_ | refine stripOK_mb (by simp_all) ?_ | refine StripOK.plain _ _ rfl ?_))) (fun hb => (a_load1p Try.underlying5 rfl (by rw [List.getElem?_drop]; exact g3))) (fun _ => trivial) ?_)
  (refine r_mb2 _ rfl rfl (by (repeat (first | exact stripOK_nil | refine stripOK_mb id ?_ | refine stripOK_p ?_ | refine stripOK_ref ?_ | refine stripOK_row ?_ | refine stripOK_ptr ?_ | refine stripOK_agg ?_ | refine stripOK_mb (by simp_all) ?_ | refine StripOK.plain _ _ rfl ?_))) (fun hb => a_neq) (fun _ => trivial) ?_)
  (refine r_pure (a_or (by first | exact id | (simp; done) | grind)) rfl rfl ?_)
  refine arun_nil ?_
  refine thn_n ?_
  refine awp_cond _ rfl (fun h => ?_) (fun h => ?_)
  · refine awp_seq ?_
    refine awp_text (by kernel_rfl) ?_
    (refine r_pure (b_build pl66 zr66 rfl rfl) rfl rfl ?_)
    (refine r_run (a_storeAll (Y := .agg _) sz66 rfl (by first | exact Nat.eq_of_beq_eq_true rfl | (simp only [AV.cells, List.length_map]; first | assumption | omega)) (Nat.eq_of_beq_eq_true rfl)) rfl rfl ⟨rfl, trivial⟩ ?_)
    (refine r_pure (a_assign (r := .p _)) rfl rfl ?_)
    refine arun_nil ?_
    refine awp_ret (thn_r ?_)
    refine ⟨(by first | exact .inl rfl | exact .inr rfl), _, (fun o => o), (.cellN _ _ _ _ _ _ _ _ _ rfl rfl Try.underlying66 rfl sz66 (by first | assumption | kernel_rfl) (.tmp _ _ _ _ rfl .nil)), ?_, rfl, ?_, rfl⟩
    · exact rfl
    · exact trivial
  · simp at h; omega

theorem wref_short (n : Nat) (xs : List Int) (hn : n < 4) : Fn Try.prog 51 [.p (.sl n 1 (bs xs))] (.tup [.agg MS0, .p (.v (.int .i64 8))]) [] := by
  refine fn_intro Try.func51 rfl (Nat.le_of_ble_eq_true rfl) fun w0 A => ?_
  refine awp_seq ?_
  refine awp_text (by kernel_rfl) ?_
  (refine r_run (a_alloc 2 zr66 rfl) rfl rfl ⟨rfl, trivial⟩ ?_)
  (refine r_pure (a_assign (r := .p _)) rfl rfl ?_)
  refine arun_nil ?_
  refine awp_seq (awp_seq ?_)
  refine awp_text (by kernel_rfl) ?_
  (refine r_pure (a_move (r := .p _)) rfl rfl ?_)
  (refine r_pure (a_lenS Try.underlying42) rfl rfl ?_)
  (refine r_pure a_lss rfl rfl ?_)
  refine arun_nil ?_
  refine thn_n ?_
  refine awp_cond _ rfl (fun h => ?_) (fun h => ?_)
  · refine awp_seq ?_
    refine awp_text (by kernel_rfl) ?_
    (refine r_pure (b_build pl66 zr66 rfl rfl) rfl rfl ?_)
    (refine r_run (a_storeAll (Y := .agg _) sz66 rfl (by first | exact Nat.eq_of_beq_eq_true rfl | (simp only [AV.cells, List.length_map]; first | assumption | omega)) (Nat.eq_of_beq_eq_true rfl)) rfl rfl ⟨rfl, trivial⟩ ?_)
    (refine r_pure (a_assign (r := .p _)) rfl rfl ?_)
    refine arun_nil ?_
    refine awp_ret (thn_r ?_)
    refine ⟨(by first | exact .inl rfl | exact .inr rfl), _, (fun o => o), (.cellN _ _ _ _ _ _ _ _ _ rfl rfl Try.underlying66 rfl sz66 (by first | assumption | kernel_rfl) (.tmp _ _ _ _ rfl .nil)), ?_, rfl, ?_, rfl⟩
    · exact rfl
    · exact trivial
  · simp at h; omega
def hdM : List (Value × Value) := [(.int .i64 1, .int .i64 8), (.int .i64 2, .int .i64 12), (.int .i64 4, .int .i64 16)]
def hdT (t : Int) : Int := if t = 1 then 8 else if t = 2 then 12 else if t = 4 then 16 else 0
theorem hdM_at (t : Int) : ∃ f, findP (.int .i64) (.int .i64 t) hdM 0 = some f ∧ gotV (.int .i64 0) f = .int .i64 (hdT t) := by
  unfold hdT
  by_cases h1 : t = 1
  · subst h1; exact ⟨_, rfl, rfl⟩
  by_cases h2 : t = 2
  · subst h2; exact ⟨_, rfl, rfl⟩
  by_cases h3 : t = 4
  · subst h3; exact ⟨_, rfl, rfl⟩
  refine ⟨none, ?_, by rw [if_neg h1, if_neg h2, if_neg h3]; rfl⟩
  have e1 : (t == 1) = false := by simp [h1]
  have e2 : (t == 2) = false := by simp [h2]
  have e3 : (t == 4) = false := by simp [h3]
  simp [findP, hdM, Instr.sameNow, e1, e2, e3]
theorem hd_ok (t : Int) : (ofS t).ok = false ↔ hdT t = 0 := by
  unfold ofS hdT
  by_cases h1 : t = 1
  · subst h1; decide
  by_cases h2 : t = 2
  · subst h2; decide
  by_cases h3 : t = 4
  · subst h3; decide
  rw [if_neg h1, if_neg h2, if_neg h3, if_neg h1, if_neg h2, if_neg h3]
  simp
set_option maxHeartbeats 1000000 in
theorem wref_kind (n : Nat) (xs : List Int) (hx : xs.length = n) (hB : isB xs) (hn : 4 ≤ n) (hk : (ofS (bN xs 0 : Nat)).ok = false) : Fn Try.prog 51 [.p (.sl n 1 (bs xs))] (.tup [.agg MS0, .p (.v (.int .i64 2))]) [] := by
  have g0 := bN_at hB (i := 0) (by omega)
  have b0 := bN_lt hB 0
  rw [hd_ok] at hk
  obtain ⟨f, f1, f2⟩ := hdM_at (bN xs 0 : Nat)
  rw [hk] at f2
  generalize bN xs 0 = y0 at *
  refine fn_intro Try.func51 rfl (Nat.le_of_ble_eq_true rfl) fun w0 A => ?_
  refine awp_seq ?_
  refine awp_text (by kernel_rfl) ?_
  (refine r_run (a_alloc 2 zr66 rfl) rfl rfl ⟨rfl, trivial⟩ ?_)
  (refine r_pure (a_assign (r := .p _)) rfl rfl ?_)
  refine arun_nil ?_
  refine awp_seq (awp_seq ?_)
  refine awp_text (by kernel_rfl) ?_
  (refine r_pure (a_move (r := .p _)) rfl rfl ?_)
  (refine r_pure (a_lenS Try.underlying42) rfl rfl ?_)
  (refine r_pure a_lss rfl rfl ?_)
  refine arun_nil ?_
  refine thn_n ?_
  refine awp_cond _ rfl (fun h => ?_) (fun h => ?_)
  · simp at h; omega
  clear h
  refine awp_skip (awp_seq ?_)
  refine awp_text (by kernel_rfl) ?_
  (refine r_pure (a_move (r := .p _)) rfl rfl ?_)
  (refine r_pure (a_indexAddrS Try.underlying42 sz5 (by omega) (by omega) rfl) rfl rfl ?_)
  (refine r_pure (a_load1p Try.underlying5 rfl (by rw [List.getElem?_drop]; exact g0)) rfl rfl ?_)
  (refine r_pure (a_conv Try.underlying5 Try.underlying3 (by first | exact IntWalk.i64_in _ (by omega) | rfl)) rfl rfl ?_)
  (refine r_pure (b_build pl66 zr66 rfl rfl) rfl rfl ?_)
  (refine r_run (a_alloc 4 zr66 rfl) rfl rfl ⟨rfl, trivial⟩ ?_)
  (refine r_run (a_storeAll (Y := .agg _) sz66 rfl (by first | exact Nat.eq_of_beq_eq_true rfl | (simp only [AV.cells, List.length_map]; first | assumption | omega)) (Nat.eq_of_beq_eq_true rfl)) rfl rfl ⟨rfl, trivial⟩ ?_)
  refine arun_nil ?_
  refine awp_seq ?_
  refine awp_text (by kernel_rfl) ?_
  (refine r_run (a_makeMap 16) rfl rfl ⟨rfl, trivial⟩ ?_)
  (refine r_run (a_insert Try.underlying125 Try.underlying3 rfl rfl) rfl rfl ⟨rfl, trivial⟩ ?_)
  (refine r_run (a_insert Try.underlying125 Try.underlying3 rfl rfl) rfl rfl ⟨rfl, trivial⟩ ?_)
  (refine r_run (a_insert Try.underlying125 Try.underlying3 rfl rfl) rfl rfl ⟨rfl, trivial⟩ ?_)
  (refine r_pure (a_move (r := .mp _)) rfl rfl ?_)
  (refine r_pure (b_fieldAddr fi66_0 rfl) rfl rfl ?_)
  (refine r_run (a_load1 Try.underlying3 rfl (by first | rfl | assumption)) rfl rfl ⟨rfl, trivial⟩ ?_)
  (refine r_run (a_lookup Try.underlying125 Try.underlying3 rfl zr3 f1 f2 rfl) rfl rfl ⟨rfl, trivial⟩ ?_)
  (refine r_pure (a_assign (r := .p _)) rfl rfl ?_)
  refine arun_nil ?_
  refine awp_seq (awp_seq ?_)
  refine awp_text (by kernel_rfl) ?_
  (refine r_pure (a_move (r := .p _)) rfl rfl ?_)
  (refine r_pure a_eql rfl rfl ?_)
  refine arun_nil ?_
  refine thn_n ?_
  refine awp_cond _ rfl (fun h => ?_) (fun h => ?_)
  · refine awp_seq ?_
    refine awp_text (by kernel_rfl) ?_
    (refine r_pure (b_build pl66 zr66 rfl rfl) rfl rfl ?_)
    (refine r_run (a_storeAll (Y := .agg _) sz66 rfl (by first | exact Nat.eq_of_beq_eq_true rfl | (simp only [AV.cells, List.length_map]; first | assumption | omega)) (Nat.eq_of_beq_eq_true rfl)) rfl rfl ⟨rfl, trivial⟩ ?_)
    (refine r_pure (a_assign (r := .p _)) rfl rfl ?_)
    refine arun_nil ?_
    refine awp_ret (thn_r ?_)
    refine ⟨(by first | exact .inl rfl | exact .inr rfl), _, (fun o => o), (.cellN _ _ _ _ _ _ _ _ _ rfl rfl Try.underlying66 rfl sz66 (by first | assumption | kernel_rfl) (.tmp _ _ _ _ rfl .nil)), ?_, rfl, ?_, rfl⟩
    · exact rfl
    · exact trivial
  · cases h
theorem zero3_iff (xs : List Int) (n : Nat) (hx : xs.length = n) (hB : isB xs) (hn : 4 ≤ n) : strOfNums ((xs.drop 1).take 3) = ⟨#[0, 0, 0]⟩ ↔ (bN xs 1 = 0 ∧ bN xs 2 = 0 ∧ bN xs 3 = 0) := by
  match xs, hx with
  | x0 :: x1 :: x2 :: x3 :: l, _ =>
    have h1 := hB x1 (by simp)
    have h2 := hB x2 (by simp)
    have h3 := hB x3 (by simp)
    rw [show ((x0 :: x1 :: x2 :: x3 :: l).drop 1).take 3 = [x1, x2, x3] from rfl]
    rw [show (⟨#[0, 0, 0]⟩ : ByteArray) = strOfNums [0, 0, 0] from rfl]
    rw [show bN (x0 :: x1 :: x2 :: x3 :: l) 1 = x1.toNat from rfl, show bN (x0 :: x1 :: x2 :: x3 :: l) 2 = x2.toNat from rfl, show bN (x0 :: x1 :: x2 :: x3 :: l) 3 = x3.toNat from rfl]
    constructor
    · intro h
      have := nums_inj (xs := [x1, x2, x3]) (ys := [0, 0, 0]) (by intro y hy; simp at hy; rcases hy with rfl | rfl | rfl <;> assumption) (by intro y hy; simp at hy; omega) h
      simp at this
      omega
    · rintro ⟨a, b, c⟩
      rw [show x1 = 0 by omega, show x2 = 0 by omega, show x3 = 0 by omega]
  | [], h => simp at h; omega
  | [_], h => simp at h; omega
  | [_, _], h => simp at h; omega
  | [_, _, _], h => simp at h; omega
set_option maxHeartbeats 1000000 in
theorem wref_form (n : Nat) (xs : List Int) (hx : xs.length = n) (hB : isB xs) (hn : 4 ≤ n) (hk : (ofS (bN xs 0 : Nat)).ok = true) (hz : ¬ (bN xs 1 = 0 ∧ bN xs 2 = 0 ∧ bN xs 3 = 0)) : Fn Try.prog 51 [.p (.sl n 1 (bs xs))] (.tup [.agg MS0, .p (.v (.int .i64 3))]) [] := by
  have g0 := bN_at hB (i := 0) (by omega)
  have b0 := bN_lt hB 0
  have hk' : ¬ hdT (bN xs 0 : Nat) = 0 := by rw [← hd_ok, hk]; simp
  obtain ⟨f, f1, f2⟩ := hdM_at (bN xs 0 : Nat)
  rw [← zero3_iff xs n hx hB hn] at hz
  have hm := bs_mid xs 1 3
  generalize (xs.drop 1).take 3 = X3 at *
  generalize bN xs 0 = y0 at *
  generalize hdT (y0 : Nat) = H at *
  refine fn_intro Try.func51 rfl (Nat.le_of_ble_eq_true rfl) fun w0 A => ?_
  refine awp_seq ?_
  refine awp_text (by kernel_rfl) ?_
  (refine r_run (a_alloc 2 zr66 rfl) rfl rfl ⟨rfl, trivial⟩ ?_)
  (refine r_pure (a_assign (r := .p _)) rfl rfl ?_)
  refine arun_nil ?_
  refine awp_seq (awp_seq ?_)
  refine awp_text (by kernel_rfl) ?_
  (refine r_pure (a_move (r := .p _)) rfl rfl ?_)
  (refine r_pure (a_lenS Try.underlying42) rfl rfl ?_)
  (refine r_pure a_lss rfl rfl ?_)
  refine arun_nil ?_
  refine thn_n ?_
  refine awp_cond _ rfl (fun h => ?_) (fun h => ?_)
  · simp at h; omega
  clear h
  refine awp_skip (awp_seq ?_)
  refine awp_text (by kernel_rfl) ?_
  (refine r_pure (a_move (r := .p _)) rfl rfl ?_)
  (refine r_pure (a_indexAddrS Try.underlying42 sz5 (by omega) (by omega) rfl) rfl rfl ?_)
  (refine r_pure (a_load1p Try.underlying5 rfl (by rw [List.getElem?_drop]; exact g0)) rfl rfl ?_)
  (refine r_pure (a_conv Try.underlying5 Try.underlying3 (by first | exact IntWalk.i64_in _ (by omega) | rfl)) rfl rfl ?_)
  (refine r_pure (b_build pl66 zr66 rfl rfl) rfl rfl ?_)
  (refine r_run (a_alloc 4 zr66 rfl) rfl rfl ⟨rfl, trivial⟩ ?_)
  (refine r_run (a_storeAll (Y := .agg _) sz66 rfl (by first | exact Nat.eq_of_beq_eq_true rfl | (simp only [AV.cells, List.length_map]; first | assumption | omega)) (Nat.eq_of_beq_eq_true rfl)) rfl rfl ⟨rfl, trivial⟩ ?_)
  refine arun_nil ?_
  refine awp_seq ?_
  refine awp_text (by kernel_rfl) ?_
  (refine r_run (a_makeMap 16) rfl rfl ⟨rfl, trivial⟩ ?_)
  (refine r_run (a_insert Try.underlying125 Try.underlying3 rfl rfl) rfl rfl ⟨rfl, trivial⟩ ?_)
  (refine r_run (a_insert Try.underlying125 Try.underlying3 rfl rfl) rfl rfl ⟨rfl, trivial⟩ ?_)
  (refine r_run (a_insert Try.underlying125 Try.underlying3 rfl rfl) rfl rfl ⟨rfl, trivial⟩ ?_)
  (refine r_pure (a_move (r := .mp _)) rfl rfl ?_)
  (refine r_pure (b_fieldAddr fi66_0 rfl) rfl rfl ?_)
  (refine r_run (a_load1 Try.underlying3 rfl (by first | rfl | assumption)) rfl rfl ⟨rfl, trivial⟩ ?_)
  (refine r_run (a_lookup Try.underlying125 Try.underlying3 rfl zr3 f1 f2 rfl) rfl rfl ⟨rfl, trivial⟩ ?_)
  (refine r_pure (a_assign (r := .p _)) rfl rfl ?_)
  refine arun_nil ?_
  refine awp_seq (awp_seq ?_)
  refine awp_text (by kernel_rfl) ?_
  (refine r_pure (a_move (r := .p _)) rfl rfl ?_)
  (refine r_pure a_eql rfl rfl ?_)
  refine arun_nil ?_
  refine thn_n ?_
  refine awp_cond _ rfl (fun h => ?_) (fun h => ?_)
  · simp at h; omega
  clear h
  refine awp_skip (awp_seq (awp_seq ?_))
  refine awp_text (by kernel_rfl) ?_
  (refine r_pure (a_move (r := .p _)) rfl rfl ?_)
  (refine r_pure (a_sliceS (L := (some (_, _))) (H := (some (_, _))) Try.underlying42 sz5 ⟨by omega, (show _ = 1 from rfl)⟩ ⟨by omega, (show _ = 4 from rfl)⟩ (by omega) (by omega) (show _ = 3 from rfl) hm) rfl rfl ?_)
  (refine r_run (a_b2s Try.underlying42 Try.underlying5 Try.underlying9 (src_sl) rfl rfl) rfl rfl trivial ?_)
  (refine r_pure a_sneq rfl rfl ?_)
  refine arun_nil ?_
  refine thn_n ?_
  refine awp_cond _ rfl (fun h => ?_) (fun h => ?_)
  · refine awp_seq ?_
    refine awp_text (by kernel_rfl) ?_
    (refine r_pure (b_build pl66 zr66 rfl rfl) rfl rfl ?_)
    (refine r_run (a_storeAll (Y := .agg _) sz66 rfl (by first | exact Nat.eq_of_beq_eq_true rfl | (simp only [AV.cells, List.length_map]; first | assumption | omega)) (Nat.eq_of_beq_eq_true rfl)) rfl rfl ⟨rfl, trivial⟩ ?_)
    (refine r_pure (a_assign (r := .p _)) rfl rfl ?_)
    refine arun_nil ?_
    refine awp_ret (thn_r ?_)
    refine ⟨(by first | exact .inl rfl | exact .inr rfl), _, (fun o => o), (.cellN _ _ _ _ _ _ _ _ _ rfl rfl Try.underlying66 rfl sz66 (by first | assumption | kernel_rfl) (.tmp _ _ _ _ rfl .nil)), ?_, rfl, ?_, rfl⟩
    · exact rfl
    · exact trivial
  · simp at h; exact absurd h hz

set_option maxHeartbeats 1000000 in
theorem numOf_s (w : Nat) (ys : List Int) (hy : ys.length = w) (hB : isB ys) (hw : w ≤ 8) : Fn Try.prog 96 [.p (.sl w 1 (bs ys))] (.p (.v (.int .i64 (nv ys w)))) [] := by
  refine fn_intro Try.func96 rfl (Nat.le_of_ble_eq_true rfl) fun w0 A => ?_
  refine awp_seq ?_
  refine awp_text (by kernel_rfl) ?_
  (refine r_pure (a_assign (r := .p _)) rfl rfl ?_)
  refine arun_nil ?_
  refine awp_seq ?_
  refine awp_text (by kernel_rfl) ?_
  (refine r_pure (a_assign (r := .p _)) rfl rfl ?_)
  refine arun_nil ?_
  refine awp_seq (awp_seq ?_)
  refine awp_text (by kernel_rfl) ?_
  (refine r_pure (a_move (r := .p _)) rfl rfl ?_)
  (refine r_pure (a_lenS Try.underlying42) rfl rfl ?_)
  (refine r_pure (a_sub (by first | exact IntWalk.i64_in _ (by omega) | rfl)) rfl rfl ?_)
  (refine r_pure (a_assign (r := .p _)) rfl rfl ?_)
  refine arun_nil ?_
  refine awp_block ?_
  refine awp_loopR (fun m st => ∃ j : Nat, m + j = w ∧ st = St.of [(0, .p (.sl w 1 (bs ys))), (3, .p (.v (.int .i64 (IntKind.i64.wrap (vK ys w j : Nat))))), (4, .p (.v (.int .i64 ((w : Int) - 1 - j))))] []) w ?_ ?_
  · refine ⟨_, re_of0 _ ?_, 0, by omega, rfl⟩
    refine ⟨⟨rfl, rfl⟩, ⟨rfl, rfl⟩, ⟨?_, rfl⟩, trivial⟩
    show AV.p (.v (.int .i64 ((w : Int) - 1))) = AV.p (.v (.int .i64 ((w : Int) - 1 - ((0 : Nat) : Int))))
    congr 3; omega
  rintro m st ⟨j, hj, rfl⟩
  refine awp_seq (awp_seq ?_)
  refine awp_text (by kernel_rfl) ?_
  (refine r_pure (a_move (r := .p _)) rfl rfl ?_)
  (refine r_pure a_geq rfl rfl ?_)
  refine arun_nil ?_
  refine thn_n ?_
  refine awp_cond _ rfl (fun h => ?_) (fun h => ?_)
  · have hlt : j < w := by simp at h; omega
    clear h
    have g1 := bN_at hB (i := w - 1 - j) (by omega)
    have b1 := bN_lt hB (w - 1 - j)
    have e1 : vK ys w (j + 1) = vK ys w j * 256 + bN ys (w - 1 - j) := rfl
    generalize bN ys (w - 1 - j) = y at *
    obtain ⟨V1, hV1⟩ : ∃ V, V = vK ys w j := ⟨_, rfl⟩
    rw [← hV1] at e1 ⊢
    have f1 := shl8 V1
    have f2 := add8 V1 y b1
    refine awp_skip (awp_seq (awp_block ?_))
    refine awp_text (by kernel_rfl) ?_
    (refine r_pure (a_move (r := .p _)) rfl rfl ?_)
    (refine r_pure (a_shl (by omega) f1) rfl rfl ?_)
    (refine r_pure (a_move (r := .p _)) rfl rfl ?_)
    (refine r_pure (a_move (r := .p _)) rfl rfl ?_)
    (refine r_pure (a_indexAddrS Try.underlying42 sz5 (by omega) (by omega) (show _ = (bs ys).drop (w - 1 - j) by rw [Nat.mul_one]; congr 1; omega)) rfl rfl ?_)
    (refine r_pure (a_load1p Try.underlying5 rfl (by rw [List.getElem?_drop]; exact g1)) rfl rfl ?_)
    (refine r_pure (a_conv Try.underlying5 Try.underlying3 (by first | exact IntWalk.i64_in _ (by omega) | rfl)) rfl rfl ?_)
    (refine r_pure (a_add f2) rfl rfl ?_)
    (refine r_pure (a_assign (r := .p _)) rfl rfl ?_)
    refine arun_nil ?_
    refine inb_n (thn_n ?_)
    refine awp_text (by kernel_rfl) ?_
    (refine r_pure (a_move (r := .p _)) rfl rfl ?_)
    (refine r_pure (a_sub (by first | exact IntWalk.i64_in _ (by omega) | rfl)) rfl rfl ?_)
    (refine r_pure (a_assign (r := .p _)) rfl rfl ?_)
    refine arun_nil ?_
    refine thn_n ?_
    refine ⟨m - 1, by omega, _, re_of0 _ ?_, j + 1, by omega, rfl⟩
    rw [e1]
    refine ⟨⟨rfl, rfl⟩, ⟨rfl, rfl⟩, ⟨?_, rfl⟩, trivial⟩
    show AV.p (.v (.int .i64 ((w : Int) - 1 - (j : Int) - 1))) = AV.p (.v (.int .i64 ((w : Int) - 1 - ((j + 1 : Nat) : Int))))
    congr 3; omega
  have hge : j = w := by simp at h; omega
  clear h
  subst hge
  refine awp_exit (awp_seq ?_)
  refine awp_text (by kernel_rfl) ?_
  (refine r_pure (a_move (r := .p _)) rfl rfl ?_)
  (refine r_pure (a_assign (r := .p _)) rfl rfl ?_)
  refine arun_nil ?_
  refine awp_ret ?_
  refine ⟨(by first | exact .inl rfl | exact .inr rfl), _, (fun o => o), (.tmp _ _ _ _ rfl .nil), ?_, rfl, ?_, rfl⟩
  · exact rfl
  · exact trivial

set_option maxHeartbeats 4000000 in
theorem wdec1_s (n : Nat) (xs : List Int) (hx : xs.length = n) (hB : isB xs) (hn : 4 ≤ n) (hm : n ≤ 140737488351232) (h0 : bN xs 0 = 1) (hz : bN xs 1 = 0 ∧ bN xs 2 = 0 ∧ bN xs 3 = 0) : Fn Try.prog 50 [.p (.sl n 1 (bs xs))] (wdV (if n < 8 then 8 else wE (wd1 n xs)) (wd1 n xs)) [] := by
  obtain ⟨z1, z2, z3⟩ := hz
  have g0 := bN_at hB (i := 0) (by omega)
  rw [h0] at g0
  have g1 := bN_at hB (i := 1) (by omega)
  rw [z1] at g1
  have g2 := bN_at hB (i := 2) (by omega)
  rw [z2] at g2
  have g3 := bN_at hB (i := 3) (by omega)
  rw [z3] at g3
  have hO := of_s 1
  change Fn Try.prog _ _ (.tup [.agg (SH.cells ⟨32, 32, true, false, false, true⟩), .p (.v (.bool true))]) [] at hO
  have hs4 := bs_cut (a := 4) hx rfl
  have hl4 : (xs.drop 4).length = n - 4 := by rw [List.length_drop, hx]
  have hB4 := isB_drop' hB 4
  have t1 : FnO Try.prog _ [.ref 44 0, .p (.v (.int .i64 ((4 : Nat) : Int)))] [(44, .live (tkB (n - 4) (xs.drop 4) false))] [(44, .live (tkB (nK false (n - 4) 4) (nY false (n - 4) 4 (xs.drop 4)) (nS false (n - 4) 4)))] (.p (.v (.int .i64 (nV false (n - 4) 4 (xs.drop 4))))) := (taker_s 4 (n - 4) (xs.drop 4) false hl4 hB4 (by omega) (by omega)).renamed [(1, 44)] rfl
  have c1 := @nS_false false (n - 4) 4 (xs.drop 4)
  have hk1 : nK false (n - 4) 4 ≤ n := by unfold nK; split <;> omega
  have hy1 : (nY false (n - 4) 4 (xs.drop 4)).length = nK false (n - 4) 4 := by unfold nY nK; split; exact hl4; rw [List.length_drop, hl4]
  have hb1 : isB (nY false (n - 4) 4 (xs.drop 4)) := by unfold nY; split; exact hB4; exact isB_drop' hB4 _
  have hsd1 : nS false (n - 4) 4 = decide (n - 4 < 4) := by unfold nS; rfl
  generalize nS false (n - 4) 4 = S1 at *
  generalize nK false (n - 4) 4 = K1 at *
  generalize nY false (n - 4) 4 (xs.drop 4) = Y1 at *
  generalize nV false (n - 4) 4 (xs.drop 4) = V1 at *
  have hcl := clone_s K1 Y1 hy1 (by omega)
  have hC := wcheck_s ⟨1, V1, 0, 0, K1, Y1⟩ (by simp only; omega)
  have hiff : S1 = true ↔ n < 8 := by
    rw [hsd1]; simp; omega
  have heq : S1 = false → (⟨1, V1, 0, 0, K1, Y1⟩ : MS) = wd1 n xs := by
    intro hf
    obtain ⟨e1, e2, e3, e4, e5⟩ := c1 hf
    unfold wd1
    rw [e3, e4, e5, List.drop_drop, Nat.sub_sub]
  clear c1 hk1 hsd1
  unfold tkB at *
  refine fn_intro Try.func50 rfl (Nat.le_of_ble_eq_true rfl) fun w0 A => ?_
  refine awp_seq ?_
  refine awp_text (by kernel_rfl) ?_
  (refine r_run (a_alloc 2 zr66 rfl) rfl rfl ⟨rfl, trivial⟩ ?_)
  (refine r_pure (a_assign (r := .p _)) rfl rfl ?_)
  refine arun_nil ?_
  refine awp_seq (awp_seq ?_)
  refine awp_text (by kernel_rfl) ?_
  (refine r_pure (a_move (r := .p _)) rfl rfl ?_)
  (refine r_pure (a_lenS Try.underlying42) rfl rfl ?_)
  (refine r_pure a_lss rfl rfl ?_)
  refine arun_nil ?_
  refine thn_n ?_
  refine awp_cond _ rfl (fun h => ?_) (fun h => ?_)
  · simp at h; omega
  clear h
  refine awp_skip (awp_seq ?_)
  refine awp_text (by kernel_rfl) ?_
  (refine r_pure (a_move (r := .p _)) rfl rfl ?_)
  (refine r_pure (a_indexAddrS Try.underlying42 sz5 (by omega) (by omega) rfl) rfl rfl ?_)
  (refine r_pure (a_load1p Try.underlying5 rfl (by rw [List.getElem?_drop]; exact g0)) rfl rfl ?_)
  (refine r_pure (a_conv Try.underlying5 Try.underlying3 (by first | exact IntWalk.i64_in _ (by omega) | rfl)) rfl rfl ?_)
  (refine r_callV (fun n => 18 + 1000 * n) (hO) rfl rfl Try.func91 rfl rfl (by first | rfl | simp [AV.noSl, AV.noSlL, AObj.noSl, PV.isV, bs_noSl]) (by first | rfl | simp [AV.noSl, AV.noSlL, AObj.noSl, PV.isV, bs_noSl]) rfl rfl rfl (by first | exact trivial | exact ⟨rfl, trivial⟩ | exact ⟨rfl, rfl, trivial⟩) rfl rfl rfl ?_)
  (refine r_pure (a_move (r := .tup _)) rfl rfl ?_)
  (refine r_pure (a_extract rfl) rfl rfl ?_)
  (refine r_pure (a_extract rfl) rfl rfl ?_)
  (refine r_run (a_alloc 4 zr113 rfl) rfl rfl ⟨rfl, trivial⟩ ?_)
  (refine r_run (a_storeAll (Y := .agg _) sz113 rfl (by first | exact Nat.eq_of_beq_eq_true rfl | (simp only [AV.cells, List.length_map]; first | assumption | omega)) (Nat.eq_of_beq_eq_true rfl)) rfl rfl ⟨rfl, trivial⟩ ?_)
  (refine r_pure (a_assign (r := .p _)) rfl rfl ?_)
  refine arun_nil ?_
  refine awp_seq (awp_seq ?_)
  refine awp_text (by kernel_rfl) ?_
  (refine r_pure (a_move (r := .p _)) rfl rfl ?_)
  (refine r_pure a_not rfl rfl ?_)
  refine arun_nil ?_
  refine thn_n ?_
  refine awp_cond _ rfl (fun h => ?_) (fun h => ?_)
  · cases h
  clear h
  refine awp_skip (awp_seq (awp_seq ?_))
  refine awp_text (by kernel_rfl) ?_
  (refine r_pure (a_move (r := .p _)) rfl rfl ?_)
  (refine r_pure (a_indexAddrS Try.underlying42 sz5 (by omega) (by omega) rfl) rfl rfl ?_)
  (refine r_pure (a_load1p Try.underlying5 rfl (by rw [List.getElem?_drop]; exact g1)) rfl rfl ?_)
  (refine r_pure a_neq rfl rfl ?_)
  (refine r_pure (a_move (r := .p _)) rfl rfl ?_)
  (refine r_mb2 _ rfl rfl (by (repeat (first | exact stripOK_nil | refine stripOK_mb id ?_ | refine stripOK_p ?_ | refine stripOK_ref ?_ | refine stripOK_row ?_ | refine stripOK_ptr ?_ | refine stripOK_agg ?_ | refine stripOK_mb (by simp_all) ?_ | refine StripOK.plain _ _ rfl ?_))) (fun hb => (a_move (r := .p _))) (fun _ => trivial) ?_)
  (refine r_mb2 _ rfl rfl (by (repeat (first | exact stripOK_nil | refine stripOK_mb id ?_ | refine stripOK_p ?_ | refine stripOK_ref ?_ | refine stripOK_row ?_ | refine stripOK_ptr ?_ | refine stripOK_agg ?_ | refine stripOK_mb (by simp_all) ?_ | refine StripOK.plain _ _ rfl ?_))) (fun hb => (a_indexAddrS Try.underlying42 sz5 (by omega) (by omega) rfl)) (fun _ => trivial) ?_)
  (refine r_mb2 _ rfl rfl (by (repeat (first | exact stripOK_nil | refine stripOK_mb id ?_ | refine stripOK_p ?_ | refine stripOK_ref ?_ | refine stripOK_row ?_ | refine stripOK_ptr ?_ | refine stripOK_agg ?_ | refine stripOK_mb (by simp_all) ?_ | refine StripOK.plain _ _ rfl ?_))) (fun hb => (a_load1p Try.underlying5 rfl (by rw [List.getElem?_drop]; exact g2))) (fun _ => trivial) ?_)
  (refine r_mb2 _ rfl rfl (by (repeat (first | exact stripOK_nil | refine stripOK_mb id ?_ | refine stripOK_p ?_ | refine stripOK_ref ?_ | refine stripOK_row ?_ | refine stripOK_ptr ?_ | refine stripOK_agg ?_ | refine stripOK_mb (by simp_all) ?_ | refine StripOK.plain _ _ rfl ?_))) (fun hb => a_neq) (fun _ => trivial) ?_)
  (refine r_pure (a_or (by first | exact id | (simp; done) | grind)) rfl rfl ?_)
  (refine r_pure (a_move (r := .p _)) rfl rfl ?_)
  (refine r_mb2 _ rfl rfl (by (repeat (first | exact stripOK_nil | refine stripOK_mb id ?_ | refine stripOK_p ?_ | refine stripOK_ref ?_ | refine stripOK_row ?_ | refine stripOK_ptr ?_ | refine stripOK_agg ?_ | refine stripOK_mb (by simp_all) ?_ | refine StripOK.plain _ _ rfl ?_))) (fun hb => (a_move (r := .p _))) (fun _ => trivial) ?_)
  (refine r_mb2 _ rfl rfl (by (repeat (first | exact stripOK_nil | refine stripOK_mb id ?_ | refine stripOK_p ?_ | refine stripOK_ref ?_ | refine stripOK_row ?_ | refine stripOK_ptr ?_ | refine stripOK_agg ?_ | refine stripOK_mb (by simp_all) ?_ | refine StripOK.plain _ _ rfl ?_))) (fun hb => (a_indexAddrS Try.underlying42 sz5 (by omega) (by omega) rfl)) (fun _ => trivial) ?_)
  (refine r_mb2 _ rfl rfl (by (repeat (first | exact stripOK_nil | refine stripOK_mb id ?_ | refine stripOK_p ?_ | refine stripOK_ref ?_ | refine stripOK_row ?_ | refine stripOK_ptr ?_ | refine stripOK_agg ?_ | refine stripOK_mb (by simp_all) ?_ | refine StripOK.plain _ _ rfl ?_))) (fun hb => (a_load1p Try.underlying5 rfl (by rw [List.getElem?_drop]; exact g3))) (fun _ => trivial) ?_)
  (refine r_mb2 _ rfl rfl (by (repeat (first | exact stripOK_nil | refine stripOK_mb id ?_ | refine stripOK_p ?_ | refine stripOK_ref ?_ | refine stripOK_row ?_ | refine stripOK_ptr ?_ | refine stripOK_agg ?_ | refine stripOK_mb (by simp_all) ?_ | refine StripOK.plain _ _ rfl ?_))) (fun hb => a_neq) (fun _ => trivial) ?_)
  (refine r_pure (a_or (by first | exact id | (simp; done) | grind)) rfl rfl ?_)
  refine arun_nil ?_
  refine thn_n ?_
  refine awp_cond _ rfl (fun h => ?_) (fun h => ?_)
  · simp at h
  clear h
  refine awp_skip (awp_seq ?_)
  refine awp_text (by kernel_rfl) ?_
  (refine r_pure (a_move (r := .p _)) rfl rfl ?_)
  (refine r_pure (a_sliceS (L := (some (_, _))) (H := none) Try.underlying42 sz5 ⟨by omega, rfl⟩ rfl (by omega) (by omega) rfl hs4) rfl rfl ?_)
  (refine r_pure (b_build pl123 zr123 rfl rfl) rfl rfl ?_)
  (refine r_run (a_box (X := .agg _) 44 rfl) rfl rfl ⟨rfl, trivial⟩ ?_)
  (refine r_pure (a_assign (r := .ref _ _)) rfl rfl ?_)
  refine arun_nil ?_
  refine awp_seq ?_
  refine awp_text (by kernel_rfl) ?_
  (refine r_pure (a_move (r := .p _)) rfl rfl ?_)
  (refine r_pure (a_indexAddrS Try.underlying42 sz5 (by omega) (by omega) rfl) rfl rfl ?_)
  (refine r_pure (a_load1p Try.underlying5 rfl (by rw [List.getElem?_drop]; exact g0)) rfl rfl ?_)
  (refine r_pure (a_conv Try.underlying5 Try.underlying3 (by first | exact IntWalk.i64_in _ (by omega) | rfl)) rfl rfl ?_)
  (refine r_pure (b_build pl66 zr66 rfl rfl) rfl rfl ?_)
  (refine r_run (a_alloc 7 zr66 rfl) rfl rfl ⟨rfl, trivial⟩ ?_)
  (refine r_run (a_storeAll (Y := .agg _) sz66 rfl (by first | exact Nat.eq_of_beq_eq_true rfl | (simp only [AV.cells, List.length_map]; first | assumption | omega)) (Nat.eq_of_beq_eq_true rfl)) rfl rfl ⟨rfl, trivial⟩ ?_)
  refine arun_nil ?_
  refine awp_seq (awp_seq ?_)
  refine awp_text (by kernel_rfl) ?_
  (refine r_pure (b_fieldAddr fi113_2 rfl) rfl rfl ?_)
  (refine r_run (a_load1 Try.underlying4 rfl (by first | rfl | assumption)) rfl rfl ⟨rfl, trivial⟩ ?_)
  refine arun_nil ?_
  refine thn_n ?_
  refine awp_cond _ rfl (fun h => ?_) (fun h => ?_)
  rotate_left
  · cases h
  clear h
  skip
  refine awp_text (by kernel_rfl) ?_
  (refine r_pure (a_move (r := .ref _ _)) rfl rfl ?_)
  (refine r_callO0 (t1) rfl rfl Try.func95 rfl rfl (by repeat (first | exact trivial | refine ⟨rfl, ?_⟩)) rfl ?_)
  (refine r_pure (b_fieldAddr fi66_1 rfl) rfl rfl ?_)
  (refine r_run (a_store (Y := .p _) sz3 rfl (by first | exact Nat.eq_of_beq_eq_true rfl | (simp only [AV.cells, List.length_map]; first | assumption | omega)) (by first | exact Nat.le_of_ble_eq_true rfl | omega | (simp only [AV.cells, List.length_map]; omega)) (by first | (simp only [setR, AV.cells, List.take_succ_cons, List.take_zero, List.drop_succ_cons, List.drop_zero, List.drop_nil, List.take_nil, List.nil_append, List.cons_append, List.append_nil, List.length_cons, List.length_nil, Nat.reduceAdd, Nat.zero_add, Nat.add_zero]; rfl) | rfl)) rfl rfl ⟨rfl, trivial⟩ ?_)
  refine arun_nil ?_
  refine awp_seq (awp_seq ?_)
  refine awp_text (by kernel_rfl) ?_
  (refine r_pure (b_fieldAddr fi113_3 rfl) rfl rfl ?_)
  (refine r_run (a_load1 Try.underlying4 rfl (by first | rfl | assumption)) rfl rfl ⟨rfl, trivial⟩ ?_)
  refine arun_nil ?_
  refine thn_n ?_
  refine awp_cond _ rfl (fun h => ?_) (fun h => ?_)
  · cases h
  clear h
  refine awp_skip (awp_seq (awp_seq ?_))
  refine awp_text (by kernel_rfl) ?_
  (refine r_pure (b_fieldAddr fi113_4 rfl) rfl rfl ?_)
  (refine r_run (a_load1 Try.underlying4 rfl (by first | rfl | assumption)) rfl rfl ⟨rfl, trivial⟩ ?_)
  refine arun_nil ?_
  refine thn_n ?_
  refine awp_cond _ rfl (fun h => ?_) (fun h => ?_)
  · cases h
  clear h
  refine awp_skip (awp_seq (awp_seq ?_))
  refine awp_text (by kernel_rfl) ?_
  (refine r_pure (a_move (r := .ref _ _)) rfl rfl ?_)
  (refine r_pure a_nilRef rfl rfl ?_)
  (refine r_pure (b_fieldAddr fi123_1 rfl) rfl rfl ?_)
  (refine r_run (a_load1 Try.underlying4 rfl (by first | rfl | assumption)) rfl rfl ⟨rfl, trivial⟩ ?_)
  refine arun_nil ?_
  refine thn_n ?_
  refine awp_cond _ rfl (fun h => ?_) (fun h => ?_)
  · have hlt := hiff.1 h
    rw [if_pos hlt, wdV_bad (by omega)]
    refine awp_seq ?_
    refine awp_text (by kernel_rfl) ?_
    (refine r_pure (b_build pl66 zr66 rfl rfl) rfl rfl ?_)
    (refine r_run (a_storeAll (Y := .agg _) sz66 rfl (by first | exact Nat.eq_of_beq_eq_true rfl | (simp only [AV.cells, List.length_map]; first | assumption | omega)) (Nat.eq_of_beq_eq_true rfl)) rfl rfl ⟨rfl, trivial⟩ ?_)
    (refine r_pure (a_assign (r := .p _)) rfl rfl ?_)
    refine arun_nil ?_
    refine awp_ret (thn_r ?_)
    refine ⟨(by first | exact .inl rfl | exact .inr rfl), _, (fun o => o), (.cellN _ _ _ _ _ _ _ _ _ rfl rfl Try.underlying66 rfl sz66 (by first | assumption | kernel_rfl) (.tmp _ _ _ _ rfl .nil)), ?_, rfl, ?_, rfl⟩
    · exact rfl
    · exact trivial
  have hlt : ¬ n < 8 := fun hh => by rw [hiff.2 hh] at h; cases h
  rw [if_neg hlt, ← heq h]
  refine awp_skip (awp_seq ?_)
  refine awp_text (by kernel_rfl) ?_
  (refine r_pure (a_move (r := .ref _ _)) rfl rfl ?_)
  (refine r_pure a_nilRef rfl rfl ?_)
  (refine r_pure (b_fieldAddr fi123_0 rfl) rfl rfl ?_)
  (refine r_run (a_load1 Try.underlying42 rfl (by first | rfl | assumption)) rfl rfl ⟨rfl, trivial⟩ ?_)
  (refine r_callV (fun n => 74 + 1000 * n) (hcl) rfl rfl Try.func79 rfl rfl (by first | rfl | simp [AV.noSl, AV.noSlL, AObj.noSl, PV.isV, bs_noSl]) (by first | rfl | simp [AV.noSl, AV.noSlL, AObj.noSl, PV.isV, bs_noSl]) rfl rfl rfl (by first | exact trivial | exact ⟨rfl, trivial⟩ | exact ⟨rfl, rfl, trivial⟩) rfl rfl rfl ?_)
  (refine r_pure (b_fieldAddr fi66_4 rfl) rfl rfl ?_)
  (refine r_run (a_store (Y := .row _) sz42 rfl (by first | exact Nat.eq_of_beq_eq_true rfl | (simp only [AV.cells, List.length_map]; first | assumption | omega)) (by first | exact Nat.le_of_ble_eq_true rfl | omega | (simp only [AV.cells, List.length_map]; omega)) (by first | (simp only [setR, AV.cells, List.take_succ_cons, List.take_zero, List.drop_succ_cons, List.drop_zero, List.drop_nil, List.take_nil, List.nil_append, List.cons_append, List.append_nil, List.length_cons, List.length_nil, Nat.reduceAdd, Nat.zero_add, Nat.add_zero]; rfl) | rfl)) rfl rfl ⟨rfl, trivial⟩ ?_)
  refine arun_nil ?_
  refine awp_seq (awp_seq ?_)
  refine awp_text (by kernel_rfl) ?_
  (refine r_run (a_loadN Try.underlying66 rfl sz66 (by first | exact Nat.le_of_ble_eq_true rfl | omega | (simp only [AV.cells, List.length_map]; omega)) (by first | exact take_all (by first | assumption | exact Nat.eq_of_beq_eq_true rfl | (simp only [AV.cells, List.length_map]; first | assumption | omega)) | (simp only [List.take_succ_cons, List.take_zero, List.drop_succ_cons, List.drop_zero]; rfl) | rfl)) rfl rfl ⟨rfl, trivial⟩ ?_)
  (refine r_callV (fun n => 77 + 1000 * n) (hC) rfl rfl Try.func45 rfl rfl (by first | rfl | simp [AV.noSl, AV.noSlL, AObj.noSl, PV.isV, bs_noSl]) (by first | rfl | simp [AV.noSl, AV.noSlL, AObj.noSl, PV.isV, bs_noSl]) rfl rfl rfl (by first | exact trivial | exact ⟨rfl, trivial⟩ | exact ⟨rfl, rfl, trivial⟩) rfl rfl rfl ?_)
  (refine r_pure (a_assign (r := .p _)) rfl rfl ?_)
  refine arun_nil ?_
  refine awp_seq ?_
  refine awp_text (by kernel_rfl) ?_
  (refine r_pure (a_move (r := .p _)) rfl rfl ?_)
  (refine r_pure a_neq rfl rfl ?_)
  refine arun_nil ?_
  refine thn_n ?_
  refine awp_cond _ rfl (fun h => ?_) (fun h => ?_)
  · rw [wdV_bad (by simpa using h)]
    refine awp_seq ?_
    refine awp_text (by kernel_rfl) ?_
    (refine r_pure (b_build pl66 zr66 rfl rfl) rfl rfl ?_)
    (refine r_pure (a_move (r := .p _)) rfl rfl ?_)
    (refine r_run (a_storeAll (Y := .agg _) sz66 rfl (by first | exact Nat.eq_of_beq_eq_true rfl | (simp only [AV.cells, List.length_map]; first | assumption | omega)) (Nat.eq_of_beq_eq_true rfl)) rfl rfl ⟨rfl, trivial⟩ ?_)
    (refine r_pure (a_assign (r := .p _)) rfl rfl ?_)
    refine arun_nil ?_
    refine awp_ret (thn_r ?_)
    refine ⟨(by first | exact .inl rfl | exact .inr rfl), _, (fun o => o), (.cellN _ _ _ _ _ _ _ _ _ rfl rfl Try.underlying66 rfl sz66 (by first | assumption | kernel_rfl) (.tmp _ _ _ _ rfl .nil)), ?_, rfl, ?_, rfl⟩
    · exact rfl
    · exact trivial
  · rw [wdV_good (by simpa using h)]
    refine awp_skip (awp_seq ?_)
    refine awp_text (by kernel_rfl) ?_
    (refine r_run (a_loadN Try.underlying66 rfl sz66 (by first | exact Nat.le_of_ble_eq_true rfl | omega | (simp only [AV.cells, List.length_map]; omega)) (by first | exact take_all (by first | assumption | exact Nat.eq_of_beq_eq_true rfl | (simp only [AV.cells, List.length_map]; first | assumption | omega)) | (simp only [List.take_succ_cons, List.take_zero, List.drop_succ_cons, List.drop_zero]; rfl) | rfl)) rfl rfl ⟨rfl, trivial⟩ ?_)
    (refine r_run (a_storeAll (Y := .agg _) sz66 rfl (by first | exact Nat.eq_of_beq_eq_true rfl | (simp only [AV.cells, List.length_map]; first | assumption | omega)) (Nat.eq_of_beq_eq_true rfl)) rfl rfl ⟨rfl, trivial⟩ ?_)
    (refine r_pure (a_assign (r := .p _)) rfl rfl ?_)
    refine arun_nil ?_
    refine awp_ret ?_
    refine ⟨(by first | exact .inl rfl | exact .inr rfl), _, (fun o => o), (.cellN _ _ _ _ _ _ _ _ _ rfl rfl Try.underlying66 rfl sz66 (by first | assumption | kernel_rfl) (.tmp _ _ _ _ rfl .nil)), ?_, rfl, ?_, rfl⟩
    · exact rfl
    · exact trivial

set_option maxHeartbeats 4000000 in
theorem wdec2_s (n : Nat) (xs : List Int) (hx : xs.length = n) (hB : isB xs) (hn : 4 ≤ n) (hm : n ≤ 140737488351232) (h0 : bN xs 0 = 2) (hz : bN xs 1 = 0 ∧ bN xs 2 = 0 ∧ bN xs 3 = 0) : Fn Try.prog 50 [.p (.sl n 1 (bs xs))] (wdV (if n < 12 then 8 else wE (wd2 n xs)) (wd2 n xs)) [] := by
  obtain ⟨z1, z2, z3⟩ := hz
  have g0 := bN_at hB (i := 0) (by omega)
  rw [h0] at g0
  have g1 := bN_at hB (i := 1) (by omega)
  rw [z1] at g1
  have g2 := bN_at hB (i := 2) (by omega)
  rw [z2] at g2
  have g3 := bN_at hB (i := 3) (by omega)
  rw [z3] at g3
  have hO := of_s 2
  change Fn Try.prog _ _ (.tup [.agg (SH.cells ⟨24, 24, true, true, false, true⟩), .p (.v (.bool true))]) [] at hO
  have hs4 := bs_cut (a := 4) hx rfl
  have hl4 : (xs.drop 4).length = n - 4 := by rw [List.length_drop, hx]
  have hB4 := isB_drop' hB 4
  have t1 : FnO Try.prog _ [.ref 44 0, .p (.v (.int .i64 ((4 : Nat) : Int)))] [(44, .live (tkB (n - 4) (xs.drop 4) false))] [(44, .live (tkB (nK false (n - 4) 4) (nY false (n - 4) 4 (xs.drop 4)) (nS false (n - 4) 4)))] (.p (.v (.int .i64 (nV false (n - 4) 4 (xs.drop 4))))) := (taker_s 4 (n - 4) (xs.drop 4) false hl4 hB4 (by omega) (by omega)).renamed [(1, 44)] rfl
  have c1 := @nS_false false (n - 4) 4 (xs.drop 4)
  have hk1 : nK false (n - 4) 4 ≤ n := by unfold nK; split <;> omega
  have hy1 : (nY false (n - 4) 4 (xs.drop 4)).length = nK false (n - 4) 4 := by unfold nY nK; split; exact hl4; rw [List.length_drop, hl4]
  have hb1 : isB (nY false (n - 4) 4 (xs.drop 4)) := by unfold nY; split; exact hB4; exact isB_drop' hB4 _
  have hsd1 : nS false (n - 4) 4 = decide (n - 4 < 4) := by unfold nS; rfl
  generalize nS false (n - 4) 4 = S1 at *
  generalize nK false (n - 4) 4 = K1 at *
  generalize nY false (n - 4) 4 (xs.drop 4) = Y1 at *
  generalize nV false (n - 4) 4 (xs.drop 4) = V1 at *
  have t2 : FnO Try.prog _ [.ref 44 0, .p (.v (.int .i64 ((4 : Nat) : Int)))] [(44, .live (tkB K1 Y1 S1))] [(44, .live (tkB (nK S1 K1 4) (nY S1 K1 4 Y1) (nS S1 K1 4)))] (.p (.v (.int .i64 (nV S1 K1 4 Y1)))) := (taker_s 4 K1 Y1 S1 hy1 hb1 (by omega) (by omega)).renamed [(1, 44)] rfl
  have c2 := @nS_false S1 K1 4 Y1
  have hk2 : nK S1 K1 4 ≤ n := by unfold nK; split <;> omega
  have hy2 : (nY S1 K1 4 Y1).length = nK S1 K1 4 := by unfold nY nK; split; exact hy1; rw [List.length_drop, hy1]
  have hsd2 : nS S1 K1 4 = (S1 || decide (K1 < 4)) := by unfold nS; rfl
  generalize nS S1 K1 4 = S2 at *
  generalize nK S1 K1 4 = K2 at *
  generalize nY S1 K1 4 Y1 = Y2 at *
  generalize nV S1 K1 4 Y1 = V2 at *
  have hcl := clone_s K2 Y2 hy2 (by omega)
  have hC := wcheck_s ⟨2, V1, V2, 0, K2, Y2⟩ (by simp only; omega)
  have hiff : S2 = true ↔ n < 12 := by
    rw [hsd2]
    cases S1
    · have := (c1 rfl).2.2.1
      have hge := (c1 rfl).2.1
      simp; omega
    · simp at hsd1
      simp; omega
  have heq : S2 = false → (⟨2, V1, V2, 0, K2, Y2⟩ : MS) = wd2 n xs := by
    intro hf
    obtain ⟨d1, d2, d3, d4, d5⟩ := c2 hf
    obtain ⟨e1, e2, e3, e4, e5⟩ := c1 d1
    unfold wd2
    rw [d3, d4, d5, e3, e4, e5, List.drop_drop, List.drop_drop, Nat.sub_sub, Nat.sub_sub]
  clear c1 hk1 hsd1 c2 hk2 hsd2
  unfold tkB at *
  refine fn_intro Try.func50 rfl (Nat.le_of_ble_eq_true rfl) fun w0 A => ?_
  refine awp_seq ?_
  refine awp_text (by kernel_rfl) ?_
  (refine r_run (a_alloc 2 zr66 rfl) rfl rfl ⟨rfl, trivial⟩ ?_)
  (refine r_pure (a_assign (r := .p _)) rfl rfl ?_)
  refine arun_nil ?_
  refine awp_seq (awp_seq ?_)
  refine awp_text (by kernel_rfl) ?_
  (refine r_pure (a_move (r := .p _)) rfl rfl ?_)
  (refine r_pure (a_lenS Try.underlying42) rfl rfl ?_)
  (refine r_pure a_lss rfl rfl ?_)
  refine arun_nil ?_
  refine thn_n ?_
  refine awp_cond _ rfl (fun h => ?_) (fun h => ?_)
  · simp at h; omega
  clear h
  refine awp_skip (awp_seq ?_)
  refine awp_text (by kernel_rfl) ?_
  (refine r_pure (a_move (r := .p _)) rfl rfl ?_)
  (refine r_pure (a_indexAddrS Try.underlying42 sz5 (by omega) (by omega) rfl) rfl rfl ?_)
  (refine r_pure (a_load1p Try.underlying5 rfl (by rw [List.getElem?_drop]; exact g0)) rfl rfl ?_)
  (refine r_pure (a_conv Try.underlying5 Try.underlying3 (by first | exact IntWalk.i64_in _ (by omega) | rfl)) rfl rfl ?_)
  (refine r_callV (fun n => 18 + 1000 * n) (hO) rfl rfl Try.func91 rfl rfl (by first | rfl | simp [AV.noSl, AV.noSlL, AObj.noSl, PV.isV, bs_noSl]) (by first | rfl | simp [AV.noSl, AV.noSlL, AObj.noSl, PV.isV, bs_noSl]) rfl rfl rfl (by first | exact trivial | exact ⟨rfl, trivial⟩ | exact ⟨rfl, rfl, trivial⟩) rfl rfl rfl ?_)
  (refine r_pure (a_move (r := .tup _)) rfl rfl ?_)
  (refine r_pure (a_extract rfl) rfl rfl ?_)
  (refine r_pure (a_extract rfl) rfl rfl ?_)
  (refine r_run (a_alloc 4 zr113 rfl) rfl rfl ⟨rfl, trivial⟩ ?_)
  (refine r_run (a_storeAll (Y := .agg _) sz113 rfl (by first | exact Nat.eq_of_beq_eq_true rfl | (simp only [AV.cells, List.length_map]; first | assumption | omega)) (Nat.eq_of_beq_eq_true rfl)) rfl rfl ⟨rfl, trivial⟩ ?_)
  (refine r_pure (a_assign (r := .p _)) rfl rfl ?_)
  refine arun_nil ?_
  refine awp_seq (awp_seq ?_)
  refine awp_text (by kernel_rfl) ?_
  (refine r_pure (a_move (r := .p _)) rfl rfl ?_)
  (refine r_pure a_not rfl rfl ?_)
  refine arun_nil ?_
  refine thn_n ?_
  refine awp_cond _ rfl (fun h => ?_) (fun h => ?_)
  · cases h
  clear h
  refine awp_skip (awp_seq (awp_seq ?_))
  refine awp_text (by kernel_rfl) ?_
  (refine r_pure (a_move (r := .p _)) rfl rfl ?_)
  (refine r_pure (a_indexAddrS Try.underlying42 sz5 (by omega) (by omega) rfl) rfl rfl ?_)
  (refine r_pure (a_load1p Try.underlying5 rfl (by rw [List.getElem?_drop]; exact g1)) rfl rfl ?_)
  (refine r_pure a_neq rfl rfl ?_)
  (refine r_pure (a_move (r := .p _)) rfl rfl ?_)
  (refine r_mb2 _ rfl rfl (by (repeat (first | exact stripOK_nil | refine stripOK_mb id ?_ | refine stripOK_p ?_ | refine stripOK_ref ?_ | refine stripOK_row ?_ | refine stripOK_ptr ?_ | refine stripOK_agg ?_ | refine stripOK_mb (by simp_all) ?_ | refine StripOK.plain _ _ rfl ?_))) (fun hb => (a_move (r := .p _))) (fun _ => trivial) ?_)
  (refine r_mb2 _ rfl rfl (by (repeat (first | exact stripOK_nil | refine stripOK_mb id ?_ | refine stripOK_p ?_ | refine stripOK_ref ?_ | refine stripOK_row ?_ | refine stripOK_ptr ?_ | refine stripOK_agg ?_ | refine stripOK_mb (by simp_all) ?_ | refine StripOK.plain _ _ rfl ?_))) (fun hb => (a_indexAddrS Try.underlying42 sz5 (by omega) (by omega) rfl)) (fun _ => trivial) ?_)
  (refine r_mb2 _ rfl rfl (by (repeat (first | exact stripOK_nil | refine stripOK_mb id ?_ | refine stripOK_p ?_ | refine stripOK_ref ?_ | refine stripOK_row ?_ | refine stripOK_ptr ?_ | refine stripOK_agg ?_ | refine stripOK_mb (by simp_all) ?_ | refine StripOK.plain _ _ rfl ?_))) (fun hb => (a_load1p Try.underlying5 rfl (by rw [List.getElem?_drop]; exact g2))) (fun _ => trivial) ?_)
  (refine r_mb2 _ rfl rfl (by (repeat (first | exact stripOK_nil | refine stripOK_mb id ?_ | refine stripOK_p ?_ | refine stripOK_ref ?_ | refine stripOK_row ?_ | refine stripOK_ptr ?_ | refine stripOK_agg ?_ | refine stripOK_mb (by simp_all) ?_ | refine StripOK.plain _ _ rfl ?_))) (fun hb => a_neq) (fun _ => trivial) ?_)
  (refine r_pure (a_or (by first | exact id | (simp; done) | grind)) rfl rfl ?_)
  (refine r_pure (a_move (r := .p _)) rfl rfl ?_)
  (refine r_mb2 _ rfl rfl (by (repeat (first | exact stripOK_nil | refine stripOK_mb id ?_ | refine stripOK_p ?_ | refine stripOK_ref ?_ | refine stripOK_row ?_ | refine stripOK_ptr ?_ | refine stripOK_agg ?_ | refine stripOK_mb (by simp_all) ?_ | refine StripOK.plain _ _ rfl ?_))) (fun hb => (a_move (r := .p _))) (fun _ => trivial) ?_)
  (refine r_mb2 _ rfl rfl (by (repeat (first | exact stripOK_nil | refine stripOK_mb id ?_ | refine stripOK_p ?_ | refine stripOK_ref ?_ | refine stripOK_row ?_ | refine stripOK_ptr ?_ | refine stripOK_agg ?_ | refine stripOK_mb (by simp_all) ?_ | refine StripOK.plain _ _ rfl ?_))) (fun hb => (a_indexAddrS Try.underlying42 sz5 (by omega) (by omega) rfl)) (fun _ => trivial) ?_)
  (refine r_mb2 _ rfl rfl (by (repeat (first | exact stripOK_nil | refine stripOK_mb id ?_ | refine stripOK_p ?_ | refine stripOK_ref ?_ | refine stripOK_row ?_ | refine stripOK_ptr ?_ | refine stripOK_agg ?_ | refine stripOK_mb (by simp_all) ?_ | refine StripOK.plain _ _ rfl ?_))) (fun hb => (a_load1p Try.underlying5 rfl (by rw [List.getElem?_drop]; exact g3))) (fun _ => trivial) ?_)
  (refine r_mb2 _ rfl rfl (by (repeat (first | exact stripOK_nil | refine stripOK_mb id ?_ | refine stripOK_p ?_ | refine stripOK_ref ?_ | refine stripOK_row ?_ | refine stripOK_ptr ?_ | refine stripOK_agg ?_ | refine stripOK_mb (by simp_all) ?_ | refine StripOK.plain _ _ rfl ?_))) (fun hb => a_neq) (fun _ => trivial) ?_)
  (refine r_pure (a_or (by first | exact id | (simp; done) | grind)) rfl rfl ?_)
  refine arun_nil ?_
  refine thn_n ?_
  refine awp_cond _ rfl (fun h => ?_) (fun h => ?_)
  · simp at h
  clear h
  refine awp_skip (awp_seq ?_)
  refine awp_text (by kernel_rfl) ?_
  (refine r_pure (a_move (r := .p _)) rfl rfl ?_)
  (refine r_pure (a_sliceS (L := (some (_, _))) (H := none) Try.underlying42 sz5 ⟨by omega, rfl⟩ rfl (by omega) (by omega) rfl hs4) rfl rfl ?_)
  (refine r_pure (b_build pl123 zr123 rfl rfl) rfl rfl ?_)
  (refine r_run (a_box (X := .agg _) 44 rfl) rfl rfl ⟨rfl, trivial⟩ ?_)
  (refine r_pure (a_assign (r := .ref _ _)) rfl rfl ?_)
  refine arun_nil ?_
  refine awp_seq ?_
  refine awp_text (by kernel_rfl) ?_
  (refine r_pure (a_move (r := .p _)) rfl rfl ?_)
  (refine r_pure (a_indexAddrS Try.underlying42 sz5 (by omega) (by omega) rfl) rfl rfl ?_)
  (refine r_pure (a_load1p Try.underlying5 rfl (by rw [List.getElem?_drop]; exact g0)) rfl rfl ?_)
  (refine r_pure (a_conv Try.underlying5 Try.underlying3 (by first | exact IntWalk.i64_in _ (by omega) | rfl)) rfl rfl ?_)
  (refine r_pure (b_build pl66 zr66 rfl rfl) rfl rfl ?_)
  (refine r_run (a_alloc 7 zr66 rfl) rfl rfl ⟨rfl, trivial⟩ ?_)
  (refine r_run (a_storeAll (Y := .agg _) sz66 rfl (by first | exact Nat.eq_of_beq_eq_true rfl | (simp only [AV.cells, List.length_map]; first | assumption | omega)) (Nat.eq_of_beq_eq_true rfl)) rfl rfl ⟨rfl, trivial⟩ ?_)
  refine arun_nil ?_
  refine awp_seq (awp_seq ?_)
  refine awp_text (by kernel_rfl) ?_
  (refine r_pure (b_fieldAddr fi113_2 rfl) rfl rfl ?_)
  (refine r_run (a_load1 Try.underlying4 rfl (by first | rfl | assumption)) rfl rfl ⟨rfl, trivial⟩ ?_)
  refine arun_nil ?_
  refine thn_n ?_
  refine awp_cond _ rfl (fun h => ?_) (fun h => ?_)
  rotate_left
  · cases h
  clear h
  skip
  refine awp_text (by kernel_rfl) ?_
  (refine r_pure (a_move (r := .ref _ _)) rfl rfl ?_)
  (refine r_callO0 (t1) rfl rfl Try.func95 rfl rfl (by repeat (first | exact trivial | refine ⟨rfl, ?_⟩)) rfl ?_)
  (refine r_pure (b_fieldAddr fi66_1 rfl) rfl rfl ?_)
  (refine r_run (a_store (Y := .p _) sz3 rfl (by first | exact Nat.eq_of_beq_eq_true rfl | (simp only [AV.cells, List.length_map]; first | assumption | omega)) (by first | exact Nat.le_of_ble_eq_true rfl | omega | (simp only [AV.cells, List.length_map]; omega)) (by first | (simp only [setR, AV.cells, List.take_succ_cons, List.take_zero, List.drop_succ_cons, List.drop_zero, List.drop_nil, List.take_nil, List.nil_append, List.cons_append, List.append_nil, List.length_cons, List.length_nil, Nat.reduceAdd, Nat.zero_add, Nat.add_zero]; rfl) | rfl)) rfl rfl ⟨rfl, trivial⟩ ?_)
  refine arun_nil ?_
  refine awp_seq (awp_seq ?_)
  refine awp_text (by kernel_rfl) ?_
  (refine r_pure (b_fieldAddr fi113_3 rfl) rfl rfl ?_)
  (refine r_run (a_load1 Try.underlying4 rfl (by first | rfl | assumption)) rfl rfl ⟨rfl, trivial⟩ ?_)
  refine arun_nil ?_
  refine thn_n ?_
  refine awp_cond _ rfl (fun h => ?_) (fun h => ?_)
  rotate_left
  · cases h
  clear h
  skip
  refine awp_text (by kernel_rfl) ?_
  (refine r_pure (a_move (r := .ref _ _)) rfl rfl ?_)
  (refine r_callO0 (t2) rfl rfl Try.func95 rfl rfl (by repeat (first | exact trivial | refine ⟨rfl, ?_⟩)) rfl ?_)
  (refine r_pure (b_fieldAddr fi66_2 rfl) rfl rfl ?_)
  (refine r_run (a_store (Y := .p _) sz3 rfl (by first | exact Nat.eq_of_beq_eq_true rfl | (simp only [AV.cells, List.length_map]; first | assumption | omega)) (by first | exact Nat.le_of_ble_eq_true rfl | omega | (simp only [AV.cells, List.length_map]; omega)) (by first | (simp only [setR, AV.cells, List.take_succ_cons, List.take_zero, List.drop_succ_cons, List.drop_zero, List.drop_nil, List.take_nil, List.nil_append, List.cons_append, List.append_nil, List.length_cons, List.length_nil, Nat.reduceAdd, Nat.zero_add, Nat.add_zero]; rfl) | rfl)) rfl rfl ⟨rfl, trivial⟩ ?_)
  refine arun_nil ?_
  refine awp_seq (awp_seq ?_)
  refine awp_text (by kernel_rfl) ?_
  (refine r_pure (b_fieldAddr fi113_4 rfl) rfl rfl ?_)
  (refine r_run (a_load1 Try.underlying4 rfl (by first | rfl | assumption)) rfl rfl ⟨rfl, trivial⟩ ?_)
  refine arun_nil ?_
  refine thn_n ?_
  refine awp_cond _ rfl (fun h => ?_) (fun h => ?_)
  · cases h
  clear h
  refine awp_skip (awp_seq (awp_seq ?_))
  refine awp_text (by kernel_rfl) ?_
  (refine r_pure (a_move (r := .ref _ _)) rfl rfl ?_)
  (refine r_pure a_nilRef rfl rfl ?_)
  (refine r_pure (b_fieldAddr fi123_1 rfl) rfl rfl ?_)
  (refine r_run (a_load1 Try.underlying4 rfl (by first | rfl | assumption)) rfl rfl ⟨rfl, trivial⟩ ?_)
  refine arun_nil ?_
  refine thn_n ?_
  refine awp_cond _ rfl (fun h => ?_) (fun h => ?_)
  · have hlt := hiff.1 h
    rw [if_pos hlt, wdV_bad (by omega)]
    refine awp_seq ?_
    refine awp_text (by kernel_rfl) ?_
    (refine r_pure (b_build pl66 zr66 rfl rfl) rfl rfl ?_)
    (refine r_run (a_storeAll (Y := .agg _) sz66 rfl (by first | exact Nat.eq_of_beq_eq_true rfl | (simp only [AV.cells, List.length_map]; first | assumption | omega)) (Nat.eq_of_beq_eq_true rfl)) rfl rfl ⟨rfl, trivial⟩ ?_)
    (refine r_pure (a_assign (r := .p _)) rfl rfl ?_)
    refine arun_nil ?_
    refine awp_ret (thn_r ?_)
    refine ⟨(by first | exact .inl rfl | exact .inr rfl), _, (fun o => o), (.cellN _ _ _ _ _ _ _ _ _ rfl rfl Try.underlying66 rfl sz66 (by first | assumption | kernel_rfl) (.tmp _ _ _ _ rfl .nil)), ?_, rfl, ?_, rfl⟩
    · exact rfl
    · exact trivial
  have hlt : ¬ n < 12 := fun hh => by rw [hiff.2 hh] at h; cases h
  rw [if_neg hlt, ← heq h]
  refine awp_skip (awp_seq ?_)
  refine awp_text (by kernel_rfl) ?_
  (refine r_pure (a_move (r := .ref _ _)) rfl rfl ?_)
  (refine r_pure a_nilRef rfl rfl ?_)
  (refine r_pure (b_fieldAddr fi123_0 rfl) rfl rfl ?_)
  (refine r_run (a_load1 Try.underlying42 rfl (by first | rfl | assumption)) rfl rfl ⟨rfl, trivial⟩ ?_)
  (refine r_callV (fun n => 74 + 1000 * n) (hcl) rfl rfl Try.func79 rfl rfl (by first | rfl | simp [AV.noSl, AV.noSlL, AObj.noSl, PV.isV, bs_noSl]) (by first | rfl | simp [AV.noSl, AV.noSlL, AObj.noSl, PV.isV, bs_noSl]) rfl rfl rfl (by first | exact trivial | exact ⟨rfl, trivial⟩ | exact ⟨rfl, rfl, trivial⟩) rfl rfl rfl ?_)
  (refine r_pure (b_fieldAddr fi66_4 rfl) rfl rfl ?_)
  (refine r_run (a_store (Y := .row _) sz42 rfl (by first | exact Nat.eq_of_beq_eq_true rfl | (simp only [AV.cells, List.length_map]; first | assumption | omega)) (by first | exact Nat.le_of_ble_eq_true rfl | omega | (simp only [AV.cells, List.length_map]; omega)) (by first | (simp only [setR, AV.cells, List.take_succ_cons, List.take_zero, List.drop_succ_cons, List.drop_zero, List.drop_nil, List.take_nil, List.nil_append, List.cons_append, List.append_nil, List.length_cons, List.length_nil, Nat.reduceAdd, Nat.zero_add, Nat.add_zero]; rfl) | rfl)) rfl rfl ⟨rfl, trivial⟩ ?_)
  refine arun_nil ?_
  refine awp_seq (awp_seq ?_)
  refine awp_text (by kernel_rfl) ?_
  (refine r_run (a_loadN Try.underlying66 rfl sz66 (by first | exact Nat.le_of_ble_eq_true rfl | omega | (simp only [AV.cells, List.length_map]; omega)) (by first | exact take_all (by first | assumption | exact Nat.eq_of_beq_eq_true rfl | (simp only [AV.cells, List.length_map]; first | assumption | omega)) | (simp only [List.take_succ_cons, List.take_zero, List.drop_succ_cons, List.drop_zero]; rfl) | rfl)) rfl rfl ⟨rfl, trivial⟩ ?_)
  (refine r_callV (fun n => 77 + 1000 * n) (hC) rfl rfl Try.func45 rfl rfl (by first | rfl | simp [AV.noSl, AV.noSlL, AObj.noSl, PV.isV, bs_noSl]) (by first | rfl | simp [AV.noSl, AV.noSlL, AObj.noSl, PV.isV, bs_noSl]) rfl rfl rfl (by first | exact trivial | exact ⟨rfl, trivial⟩ | exact ⟨rfl, rfl, trivial⟩) rfl rfl rfl ?_)
  (refine r_pure (a_assign (r := .p _)) rfl rfl ?_)
  refine arun_nil ?_
  refine awp_seq ?_
  refine awp_text (by kernel_rfl) ?_
  (refine r_pure (a_move (r := .p _)) rfl rfl ?_)
  (refine r_pure a_neq rfl rfl ?_)
  refine arun_nil ?_
  refine thn_n ?_
  refine awp_cond _ rfl (fun h => ?_) (fun h => ?_)
  · rw [wdV_bad (by simpa using h)]
    refine awp_seq ?_
    refine awp_text (by kernel_rfl) ?_
    (refine r_pure (b_build pl66 zr66 rfl rfl) rfl rfl ?_)
    (refine r_pure (a_move (r := .p _)) rfl rfl ?_)
    (refine r_run (a_storeAll (Y := .agg _) sz66 rfl (by first | exact Nat.eq_of_beq_eq_true rfl | (simp only [AV.cells, List.length_map]; first | assumption | omega)) (Nat.eq_of_beq_eq_true rfl)) rfl rfl ⟨rfl, trivial⟩ ?_)
    (refine r_pure (a_assign (r := .p _)) rfl rfl ?_)
    refine arun_nil ?_
    refine awp_ret (thn_r ?_)
    refine ⟨(by first | exact .inl rfl | exact .inr rfl), _, (fun o => o), (.cellN _ _ _ _ _ _ _ _ _ rfl rfl Try.underlying66 rfl sz66 (by first | assumption | kernel_rfl) (.tmp _ _ _ _ rfl .nil)), ?_, rfl, ?_, rfl⟩
    · exact rfl
    · exact trivial
  · rw [wdV_good (by simpa using h)]
    refine awp_skip (awp_seq ?_)
    refine awp_text (by kernel_rfl) ?_
    (refine r_run (a_loadN Try.underlying66 rfl sz66 (by first | exact Nat.le_of_ble_eq_true rfl | omega | (simp only [AV.cells, List.length_map]; omega)) (by first | exact take_all (by first | assumption | exact Nat.eq_of_beq_eq_true rfl | (simp only [AV.cells, List.length_map]; first | assumption | omega)) | (simp only [List.take_succ_cons, List.take_zero, List.drop_succ_cons, List.drop_zero]; rfl) | rfl)) rfl rfl ⟨rfl, trivial⟩ ?_)
    (refine r_run (a_storeAll (Y := .agg _) sz66 rfl (by first | exact Nat.eq_of_beq_eq_true rfl | (simp only [AV.cells, List.length_map]; first | assumption | omega)) (Nat.eq_of_beq_eq_true rfl)) rfl rfl ⟨rfl, trivial⟩ ?_)
    (refine r_pure (a_assign (r := .p _)) rfl rfl ?_)
    refine arun_nil ?_
    refine awp_ret ?_
    refine ⟨(by first | exact .inl rfl | exact .inr rfl), _, (fun o => o), (.cellN _ _ _ _ _ _ _ _ _ rfl rfl Try.underlying66 rfl sz66 (by first | assumption | kernel_rfl) (.tmp _ _ _ _ rfl .nil)), ?_, rfl, ?_, rfl⟩
    · exact rfl
    · exact trivial

set_option maxHeartbeats 4000000 in
theorem wdec4_s (n : Nat) (xs : List Int) (hx : xs.length = n) (hB : isB xs) (hn : 4 ≤ n) (hm : n ≤ 140737488351232) (h0 : bN xs 0 = 4) (hz : bN xs 1 = 0 ∧ bN xs 2 = 0 ∧ bN xs 3 = 0) : Fn Try.prog 50 [.p (.sl n 1 (bs xs))] (wdV (if n < 16 then 8 else wE (wd4 n xs)) (wd4 n xs)) [] := by
  obtain ⟨z1, z2, z3⟩ := hz
  have g0 := bN_at hB (i := 0) (by omega)
  rw [h0] at g0
  have g1 := bN_at hB (i := 1) (by omega)
  rw [z1] at g1
  have g2 := bN_at hB (i := 2) (by omega)
  rw [z2] at g2
  have g3 := bN_at hB (i := 3) (by omega)
  rw [z3] at g3
  have hO := of_s 4
  change Fn Try.prog _ _ (.tup [.agg (SH.cells ⟨16, 236, false, true, true, true⟩), .p (.v (.bool true))]) [] at hO
  have hs4 := bs_cut (a := 4) hx rfl
  have hl4 : (xs.drop 4).length = n - 4 := by rw [List.length_drop, hx]
  have hB4 := isB_drop' hB 4
  have t1 : FnO Try.prog _ [.ref 44 0, .p (.v (.int .i64 ((4 : Nat) : Int)))] [(44, .live (tkB (n - 4) (xs.drop 4) false))] [(44, .live (tkB (nK false (n - 4) 4) (nY false (n - 4) 4 (xs.drop 4)) (nS false (n - 4) 4)))] (.p (.v (.int .i64 (nV false (n - 4) 4 (xs.drop 4))))) := (taker_s 4 (n - 4) (xs.drop 4) false hl4 hB4 (by omega) (by omega)).renamed [(1, 44)] rfl
  have c1 := @nS_false false (n - 4) 4 (xs.drop 4)
  have hk1 : nK false (n - 4) 4 ≤ n := by unfold nK; split <;> omega
  have hy1 : (nY false (n - 4) 4 (xs.drop 4)).length = nK false (n - 4) 4 := by unfold nY nK; split; exact hl4; rw [List.length_drop, hl4]
  have hb1 : isB (nY false (n - 4) 4 (xs.drop 4)) := by unfold nY; split; exact hB4; exact isB_drop' hB4 _
  have hsd1 : nS false (n - 4) 4 = decide (n - 4 < 4) := by unfold nS; rfl
  generalize nS false (n - 4) 4 = S1 at *
  generalize nK false (n - 4) 4 = K1 at *
  generalize nY false (n - 4) 4 (xs.drop 4) = Y1 at *
  generalize nV false (n - 4) 4 (xs.drop 4) = V1 at *
  have t2 : FnO Try.prog _ [.ref 44 0, .p (.v (.int .i64 ((8 : Nat) : Int)))] [(44, .live (tkB K1 Y1 S1))] [(44, .live (tkB (nK S1 K1 8) (nY S1 K1 8 Y1) (nS S1 K1 8)))] (.p (.v (.int .i64 (nV S1 K1 8 Y1)))) := (taker_s 8 K1 Y1 S1 hy1 hb1 (by omega) (by omega)).renamed [(1, 44)] rfl
  have c2 := @nS_false S1 K1 8 Y1
  have hk2 : nK S1 K1 8 ≤ n := by unfold nK; split <;> omega
  have hy2 : (nY S1 K1 8 Y1).length = nK S1 K1 8 := by unfold nY nK; split; exact hy1; rw [List.length_drop, hy1]
  have hsd2 : nS S1 K1 8 = (S1 || decide (K1 < 8)) := by unfold nS; rfl
  generalize nS S1 K1 8 = S2 at *
  generalize nK S1 K1 8 = K2 at *
  generalize nY S1 K1 8 Y1 = Y2 at *
  generalize nV S1 K1 8 Y1 = V2 at *
  have hcl := clone_s K2 Y2 hy2 (by omega)
  have hC := wcheck_s ⟨4, 0, V1, V2, K2, Y2⟩ (by simp only; omega)
  have hiff : S2 = true ↔ n < 16 := by
    rw [hsd2]
    cases S1
    · have := (c1 rfl).2.2.1
      have hge := (c1 rfl).2.1
      simp; omega
    · simp at hsd1
      simp; omega
  have heq : S2 = false → (⟨4, 0, V1, V2, K2, Y2⟩ : MS) = wd4 n xs := by
    intro hf
    obtain ⟨d1, d2, d3, d4, d5⟩ := c2 hf
    obtain ⟨e1, e2, e3, e4, e5⟩ := c1 d1
    unfold wd4
    rw [d3, d4, d5, e3, e4, e5, List.drop_drop, List.drop_drop, Nat.sub_sub, Nat.sub_sub]
  clear c1 hk1 hsd1 c2 hk2 hsd2
  unfold tkB at *
  refine fn_intro Try.func50 rfl (Nat.le_of_ble_eq_true rfl) fun w0 A => ?_
  refine awp_seq ?_
  refine awp_text (by kernel_rfl) ?_
  (refine r_run (a_alloc 2 zr66 rfl) rfl rfl ⟨rfl, trivial⟩ ?_)
  (refine r_pure (a_assign (r := .p _)) rfl rfl ?_)
  refine arun_nil ?_
  refine awp_seq (awp_seq ?_)
  refine awp_text (by kernel_rfl) ?_
  (refine r_pure (a_move (r := .p _)) rfl rfl ?_)
  (refine r_pure (a_lenS Try.underlying42) rfl rfl ?_)
  (refine r_pure a_lss rfl rfl ?_)
  refine arun_nil ?_
  refine thn_n ?_
  refine awp_cond _ rfl (fun h => ?_) (fun h => ?_)
  · simp at h; omega
  clear h
  refine awp_skip (awp_seq ?_)
  refine awp_text (by kernel_rfl) ?_
  (refine r_pure (a_move (r := .p _)) rfl rfl ?_)
  (refine r_pure (a_indexAddrS Try.underlying42 sz5 (by omega) (by omega) rfl) rfl rfl ?_)
  (refine r_pure (a_load1p Try.underlying5 rfl (by rw [List.getElem?_drop]; exact g0)) rfl rfl ?_)
  (refine r_pure (a_conv Try.underlying5 Try.underlying3 (by first | exact IntWalk.i64_in _ (by omega) | rfl)) rfl rfl ?_)
  (refine r_callV (fun n => 18 + 1000 * n) (hO) rfl rfl Try.func91 rfl rfl (by first | rfl | simp [AV.noSl, AV.noSlL, AObj.noSl, PV.isV, bs_noSl]) (by first | rfl | simp [AV.noSl, AV.noSlL, AObj.noSl, PV.isV, bs_noSl]) rfl rfl rfl (by first | exact trivial | exact ⟨rfl, trivial⟩ | exact ⟨rfl, rfl, trivial⟩) rfl rfl rfl ?_)
  (refine r_pure (a_move (r := .tup _)) rfl rfl ?_)
  (refine r_pure (a_extract rfl) rfl rfl ?_)
  (refine r_pure (a_extract rfl) rfl rfl ?_)
  (refine r_run (a_alloc 4 zr113 rfl) rfl rfl ⟨rfl, trivial⟩ ?_)
  (refine r_run (a_storeAll (Y := .agg _) sz113 rfl (by first | exact Nat.eq_of_beq_eq_true rfl | (simp only [AV.cells, List.length_map]; first | assumption | omega)) (Nat.eq_of_beq_eq_true rfl)) rfl rfl ⟨rfl, trivial⟩ ?_)
  (refine r_pure (a_assign (r := .p _)) rfl rfl ?_)
  refine arun_nil ?_
  refine awp_seq (awp_seq ?_)
  refine awp_text (by kernel_rfl) ?_
  (refine r_pure (a_move (r := .p _)) rfl rfl ?_)
  (refine r_pure a_not rfl rfl ?_)
  refine arun_nil ?_
  refine thn_n ?_
  refine awp_cond _ rfl (fun h => ?_) (fun h => ?_)
  · cases h
  clear h
  refine awp_skip (awp_seq (awp_seq ?_))
  refine awp_text (by kernel_rfl) ?_
  (refine r_pure (a_move (r := .p _)) rfl rfl ?_)
  (refine r_pure (a_indexAddrS Try.underlying42 sz5 (by omega) (by omega) rfl) rfl rfl ?_)
  (refine r_pure (a_load1p Try.underlying5 rfl (by rw [List.getElem?_drop]; exact g1)) rfl rfl ?_)
  (refine r_pure a_neq rfl rfl ?_)
  (refine r_pure (a_move (r := .p _)) rfl rfl ?_)
  (refine r_mb2 _ rfl rfl (by (repeat (first | exact stripOK_nil | refine stripOK_mb id ?_ | refine stripOK_p ?_ | refine stripOK_ref ?_ | refine stripOK_row ?_ | refine stripOK_ptr ?_ | refine stripOK_agg ?_ | refine stripOK_mb (by simp_all) ?_ | refine StripOK.plain _ _ rfl ?_))) (fun hb => (a_move (r := .p _))) (fun _ => trivial) ?_)
  (refine r_mb2 _ rfl rfl (by (repeat (first | exact stripOK_nil | refine stripOK_mb id ?_ | refine stripOK_p ?_ | refine stripOK_ref ?_ | refine stripOK_row ?_ | refine stripOK_ptr ?_ | refine stripOK_agg ?_ | refine stripOK_mb (by simp_all) ?_ | refine StripOK.plain _ _ rfl ?_))) (fun hb => (a_indexAddrS Try.underlying42 sz5 (by omega) (by omega) rfl)) (fun _ => trivial) ?_)
  (refine r_mb2 _ rfl rfl (by (repeat (first | exact stripOK_nil | refine stripOK_mb id ?_ | refine stripOK_p ?_ | refine stripOK_ref ?_ | refine stripOK_row ?_ | refine stripOK_ptr ?_ | refine stripOK_agg ?_ | refine stripOK_mb (by simp_all) ?_ | refine StripOK.plain _ _ rfl ?_))) (fun hb => (a_load1p Try.underlying5 rfl (by rw [List.getElem?_drop]; exact g2))) (fun _ => trivial) ?_)
  (refine r_mb2 _ rfl rfl (by (repeat (first | exact stripOK_nil | refine stripOK_mb id ?_ | refine stripOK_p ?_ | refine stripOK_ref ?_ | refine stripOK_row ?_ | refine stripOK_ptr ?_ | refine stripOK_agg ?_ | refine stripOK_mb (by simp_all) ?_ | refine StripOK.plain _ _ rfl ?_))) (fun hb => a_neq) (fun _ => trivial) ?_)
  (refine r_pure (a_or (by first | exact id | (simp; done) | grind)) rfl rfl ?_)
  (refine r_pure (a_move (r := .p _)) rfl rfl ?_)
  (refine r_mb2 _ rfl rfl (by (repeat (first | exact stripOK_nil | refine stripOK_mb id ?_ | refine stripOK_p ?_ | refine stripOK_ref ?_ | refine stripOK_row ?_ | refine stripOK_ptr ?_ | refine stripOK_agg ?_ | refine stripOK_mb (by simp_all) ?_ | refine StripOK.plain _ _ rfl ?_))) (fun hb => (a_move (r := .p _))) (fun _ => trivial) ?_)
  (refine r_mb2 _ rfl rfl (by (repeat (first | exact stripOK_nil | refine stripOK_mb id ?_ | refine stripOK_p ?_ | refine stripOK_ref ?_ | refine stripOK_row ?_ | refine stripOK_ptr ?_ | refine stripOK_agg ?_ | refine stripOK_mb (by simp_all) ?_ | refine StripOK.plain _ _ rfl ?_))) (fun hb => (a_indexAddrS Try.underlying42 sz5 (by omega) (by omega) rfl)) (fun _ => trivial) ?_)
  (refine r_mb2 _ rfl rfl (by (repeat (first | exact stripOK_nil | refine stripOK_mb id ?_ | refine stripOK_p ?_ | refine stripOK_ref ?_ | refine stripOK_row ?_ | refine stripOK_ptr ?_ | refine stripOK_agg ?_ | refine stripOK_mb (by simp_all) ?_ | refine StripOK.plain _ _ rfl ?_))) (fun hb => (a_load1p Try.underlying5 rfl (by rw [List.getElem?_drop]; exact g3))) (fun _ => trivial) ?_)
  (refine r_mb2 _ rfl rfl (by (repeat (first | exact stripOK_nil | refine stripOK_mb id ?_ | refine stripOK_p ?_ | refine stripOK_ref ?_ | refine stripOK_row ?_ | refine stripOK_ptr ?_ | refine stripOK_agg ?_ | refine stripOK_mb (by simp_all) ?_ | refine StripOK.plain _ _ rfl ?_))) (fun hb => a_neq) (fun _ => trivial) ?_)
  (refine r_pure (a_or (by first | exact id | (simp; done) | grind)) rfl rfl ?_)
  refine arun_nil ?_
  refine thn_n ?_
  refine awp_cond _ rfl (fun h => ?_) (fun h => ?_)
  · simp at h
  clear h
  refine awp_skip (awp_seq ?_)
  refine awp_text (by kernel_rfl) ?_
  (refine r_pure (a_move (r := .p _)) rfl rfl ?_)
  (refine r_pure (a_sliceS (L := (some (_, _))) (H := none) Try.underlying42 sz5 ⟨by omega, rfl⟩ rfl (by omega) (by omega) rfl hs4) rfl rfl ?_)
  (refine r_pure (b_build pl123 zr123 rfl rfl) rfl rfl ?_)
  (refine r_run (a_box (X := .agg _) 44 rfl) rfl rfl ⟨rfl, trivial⟩ ?_)
  (refine r_pure (a_assign (r := .ref _ _)) rfl rfl ?_)
  refine arun_nil ?_
  refine awp_seq ?_
  refine awp_text (by kernel_rfl) ?_
  (refine r_pure (a_move (r := .p _)) rfl rfl ?_)
  (refine r_pure (a_indexAddrS Try.underlying42 sz5 (by omega) (by omega) rfl) rfl rfl ?_)
  (refine r_pure (a_load1p Try.underlying5 rfl (by rw [List.getElem?_drop]; exact g0)) rfl rfl ?_)
  (refine r_pure (a_conv Try.underlying5 Try.underlying3 (by first | exact IntWalk.i64_in _ (by omega) | rfl)) rfl rfl ?_)
  (refine r_pure (b_build pl66 zr66 rfl rfl) rfl rfl ?_)
  (refine r_run (a_alloc 7 zr66 rfl) rfl rfl ⟨rfl, trivial⟩ ?_)
  (refine r_run (a_storeAll (Y := .agg _) sz66 rfl (by first | exact Nat.eq_of_beq_eq_true rfl | (simp only [AV.cells, List.length_map]; first | assumption | omega)) (Nat.eq_of_beq_eq_true rfl)) rfl rfl ⟨rfl, trivial⟩ ?_)
  refine arun_nil ?_
  refine awp_seq (awp_seq ?_)
  refine awp_text (by kernel_rfl) ?_
  (refine r_pure (b_fieldAddr fi113_2 rfl) rfl rfl ?_)
  (refine r_run (a_load1 Try.underlying4 rfl (by first | rfl | assumption)) rfl rfl ⟨rfl, trivial⟩ ?_)
  refine arun_nil ?_
  refine thn_n ?_
  refine awp_cond _ rfl (fun h => ?_) (fun h => ?_)
  · cases h
  clear h
  refine awp_skip (awp_seq (awp_seq ?_))
  refine awp_text (by kernel_rfl) ?_
  (refine r_pure (b_fieldAddr fi113_3 rfl) rfl rfl ?_)
  (refine r_run (a_load1 Try.underlying4 rfl (by first | rfl | assumption)) rfl rfl ⟨rfl, trivial⟩ ?_)
  refine arun_nil ?_
  refine thn_n ?_
  refine awp_cond _ rfl (fun h => ?_) (fun h => ?_)
  rotate_left
  · cases h
  clear h
  skip
  refine awp_text (by kernel_rfl) ?_
  (refine r_pure (a_move (r := .ref _ _)) rfl rfl ?_)
  (refine r_callO0 (t1) rfl rfl Try.func95 rfl rfl (by repeat (first | exact trivial | refine ⟨rfl, ?_⟩)) rfl ?_)
  (refine r_pure (b_fieldAddr fi66_2 rfl) rfl rfl ?_)
  (refine r_run (a_store (Y := .p _) sz3 rfl (by first | exact Nat.eq_of_beq_eq_true rfl | (simp only [AV.cells, List.length_map]; first | assumption | omega)) (by first | exact Nat.le_of_ble_eq_true rfl | omega | (simp only [AV.cells, List.length_map]; omega)) (by first | (simp only [setR, AV.cells, List.take_succ_cons, List.take_zero, List.drop_succ_cons, List.drop_zero, List.drop_nil, List.take_nil, List.nil_append, List.cons_append, List.append_nil, List.length_cons, List.length_nil, Nat.reduceAdd, Nat.zero_add, Nat.add_zero]; rfl) | rfl)) rfl rfl ⟨rfl, trivial⟩ ?_)
  refine arun_nil ?_
  refine awp_seq (awp_seq ?_)
  refine awp_text (by kernel_rfl) ?_
  (refine r_pure (b_fieldAddr fi113_4 rfl) rfl rfl ?_)
  (refine r_run (a_load1 Try.underlying4 rfl (by first | rfl | assumption)) rfl rfl ⟨rfl, trivial⟩ ?_)
  refine arun_nil ?_
  refine thn_n ?_
  refine awp_cond _ rfl (fun h => ?_) (fun h => ?_)
  rotate_left
  · cases h
  clear h
  skip
  refine awp_text (by kernel_rfl) ?_
  (refine r_pure (a_move (r := .ref _ _)) rfl rfl ?_)
  (refine r_callO0 (t2) rfl rfl Try.func95 rfl rfl (by repeat (first | exact trivial | refine ⟨rfl, ?_⟩)) rfl ?_)
  (refine r_pure (b_fieldAddr fi66_3 rfl) rfl rfl ?_)
  (refine r_run (a_store (Y := .p _) sz3 rfl (by first | exact Nat.eq_of_beq_eq_true rfl | (simp only [AV.cells, List.length_map]; first | assumption | omega)) (by first | exact Nat.le_of_ble_eq_true rfl | omega | (simp only [AV.cells, List.length_map]; omega)) (by first | (simp only [setR, AV.cells, List.take_succ_cons, List.take_zero, List.drop_succ_cons, List.drop_zero, List.drop_nil, List.take_nil, List.nil_append, List.cons_append, List.append_nil, List.length_cons, List.length_nil, Nat.reduceAdd, Nat.zero_add, Nat.add_zero]; rfl) | rfl)) rfl rfl ⟨rfl, trivial⟩ ?_)
  refine arun_nil ?_
  refine awp_seq (awp_seq ?_)
  refine awp_text (by kernel_rfl) ?_
  (refine r_pure (a_move (r := .ref _ _)) rfl rfl ?_)
  (refine r_pure a_nilRef rfl rfl ?_)
  (refine r_pure (b_fieldAddr fi123_1 rfl) rfl rfl ?_)
  (refine r_run (a_load1 Try.underlying4 rfl (by first | rfl | assumption)) rfl rfl ⟨rfl, trivial⟩ ?_)
  refine arun_nil ?_
  refine thn_n ?_
  refine awp_cond _ rfl (fun h => ?_) (fun h => ?_)
  · have hlt := hiff.1 h
    rw [if_pos hlt, wdV_bad (by omega)]
    refine awp_seq ?_
    refine awp_text (by kernel_rfl) ?_
    (refine r_pure (b_build pl66 zr66 rfl rfl) rfl rfl ?_)
    (refine r_run (a_storeAll (Y := .agg _) sz66 rfl (by first | exact Nat.eq_of_beq_eq_true rfl | (simp only [AV.cells, List.length_map]; first | assumption | omega)) (Nat.eq_of_beq_eq_true rfl)) rfl rfl ⟨rfl, trivial⟩ ?_)
    (refine r_pure (a_assign (r := .p _)) rfl rfl ?_)
    refine arun_nil ?_
    refine awp_ret (thn_r ?_)
    refine ⟨(by first | exact .inl rfl | exact .inr rfl), _, (fun o => o), (.cellN _ _ _ _ _ _ _ _ _ rfl rfl Try.underlying66 rfl sz66 (by first | assumption | kernel_rfl) (.tmp _ _ _ _ rfl .nil)), ?_, rfl, ?_, rfl⟩
    · exact rfl
    · exact trivial
  have hlt : ¬ n < 16 := fun hh => by rw [hiff.2 hh] at h; cases h
  rw [if_neg hlt, ← heq h]
  refine awp_skip (awp_seq ?_)
  refine awp_text (by kernel_rfl) ?_
  (refine r_pure (a_move (r := .ref _ _)) rfl rfl ?_)
  (refine r_pure a_nilRef rfl rfl ?_)
  (refine r_pure (b_fieldAddr fi123_0 rfl) rfl rfl ?_)
  (refine r_run (a_load1 Try.underlying42 rfl (by first | rfl | assumption)) rfl rfl ⟨rfl, trivial⟩ ?_)
  (refine r_callV (fun n => 74 + 1000 * n) (hcl) rfl rfl Try.func79 rfl rfl (by first | rfl | simp [AV.noSl, AV.noSlL, AObj.noSl, PV.isV, bs_noSl]) (by first | rfl | simp [AV.noSl, AV.noSlL, AObj.noSl, PV.isV, bs_noSl]) rfl rfl rfl (by first | exact trivial | exact ⟨rfl, trivial⟩ | exact ⟨rfl, rfl, trivial⟩) rfl rfl rfl ?_)
  (refine r_pure (b_fieldAddr fi66_4 rfl) rfl rfl ?_)
  (refine r_run (a_store (Y := .row _) sz42 rfl (by first | exact Nat.eq_of_beq_eq_true rfl | (simp only [AV.cells, List.length_map]; first | assumption | omega)) (by first | exact Nat.le_of_ble_eq_true rfl | omega | (simp only [AV.cells, List.length_map]; omega)) (by first | (simp only [setR, AV.cells, List.take_succ_cons, List.take_zero, List.drop_succ_cons, List.drop_zero, List.drop_nil, List.take_nil, List.nil_append, List.cons_append, List.append_nil, List.length_cons, List.length_nil, Nat.reduceAdd, Nat.zero_add, Nat.add_zero]; rfl) | rfl)) rfl rfl ⟨rfl, trivial⟩ ?_)
  refine arun_nil ?_
  refine awp_seq (awp_seq ?_)
  refine awp_text (by kernel_rfl) ?_
  (refine r_run (a_loadN Try.underlying66 rfl sz66 (by first | exact Nat.le_of_ble_eq_true rfl | omega | (simp only [AV.cells, List.length_map]; omega)) (by first | exact take_all (by first | assumption | exact Nat.eq_of_beq_eq_true rfl | (simp only [AV.cells, List.length_map]; first | assumption | omega)) | (simp only [List.take_succ_cons, List.take_zero, List.drop_succ_cons, List.drop_zero]; rfl) | rfl)) rfl rfl ⟨rfl, trivial⟩ ?_)
  (refine r_callV (fun n => 77 + 1000 * n) (hC) rfl rfl Try.func45 rfl rfl (by first | rfl | simp [AV.noSl, AV.noSlL, AObj.noSl, PV.isV, bs_noSl]) (by first | rfl | simp [AV.noSl, AV.noSlL, AObj.noSl, PV.isV, bs_noSl]) rfl rfl rfl (by first | exact trivial | exact ⟨rfl, trivial⟩ | exact ⟨rfl, rfl, trivial⟩) rfl rfl rfl ?_)
  (refine r_pure (a_assign (r := .p _)) rfl rfl ?_)
  refine arun_nil ?_
  refine awp_seq ?_
  refine awp_text (by kernel_rfl) ?_
  (refine r_pure (a_move (r := .p _)) rfl rfl ?_)
  (refine r_pure a_neq rfl rfl ?_)
  refine arun_nil ?_
  refine thn_n ?_
  refine awp_cond _ rfl (fun h => ?_) (fun h => ?_)
  · rw [wdV_bad (by simpa using h)]
    refine awp_seq ?_
    refine awp_text (by kernel_rfl) ?_
    (refine r_pure (b_build pl66 zr66 rfl rfl) rfl rfl ?_)
    (refine r_pure (a_move (r := .p _)) rfl rfl ?_)
    (refine r_run (a_storeAll (Y := .agg _) sz66 rfl (by first | exact Nat.eq_of_beq_eq_true rfl | (simp only [AV.cells, List.length_map]; first | assumption | omega)) (Nat.eq_of_beq_eq_true rfl)) rfl rfl ⟨rfl, trivial⟩ ?_)
    (refine r_pure (a_assign (r := .p _)) rfl rfl ?_)
    refine arun_nil ?_
    refine awp_ret (thn_r ?_)
    refine ⟨(by first | exact .inl rfl | exact .inr rfl), _, (fun o => o), (.cellN _ _ _ _ _ _ _ _ _ rfl rfl Try.underlying66 rfl sz66 (by first | assumption | kernel_rfl) (.tmp _ _ _ _ rfl .nil)), ?_, rfl, ?_, rfl⟩
    · exact rfl
    · exact trivial
  · rw [wdV_good (by simpa using h)]
    refine awp_skip (awp_seq ?_)
    refine awp_text (by kernel_rfl) ?_
    (refine r_run (a_loadN Try.underlying66 rfl sz66 (by first | exact Nat.le_of_ble_eq_true rfl | omega | (simp only [AV.cells, List.length_map]; omega)) (by first | exact take_all (by first | assumption | exact Nat.eq_of_beq_eq_true rfl | (simp only [AV.cells, List.length_map]; first | assumption | omega)) | (simp only [List.take_succ_cons, List.take_zero, List.drop_succ_cons, List.drop_zero]; rfl) | rfl)) rfl rfl ⟨rfl, trivial⟩ ?_)
    (refine r_run (a_storeAll (Y := .agg _) sz66 rfl (by first | exact Nat.eq_of_beq_eq_true rfl | (simp only [AV.cells, List.length_map]; first | assumption | omega)) (Nat.eq_of_beq_eq_true rfl)) rfl rfl ⟨rfl, trivial⟩ ?_)
    (refine r_pure (a_assign (r := .p _)) rfl rfl ?_)
    refine arun_nil ?_
    refine awp_ret ?_
    refine ⟨(by first | exact .inl rfl | exact .inr rfl), _, (fun o => o), (.cellN _ _ _ _ _ _ _ _ _ rfl rfl Try.underlying66 rfl sz66 (by first | assumption | kernel_rfl) (.tmp _ _ _ _ rfl .nil)), ?_, rfl, ?_, rfl⟩
    · exact rfl
    · exact trivial

set_option maxHeartbeats 4000000 in
theorem wref1_s (n : Nat) (xs : List Int) (hx : xs.length = n) (hB : isB xs) (hn : 4 ≤ n) (hm : n ≤ 140737488351232) (h0 : bN xs 0 = 1) (hz : bN xs 1 = 0 ∧ bN xs 2 = 0 ∧ bN xs 3 = 0) : Fn Try.prog 51 [.p (.sl n 1 (bs xs))] (wdV (if n < 8 then 8 else wE (wd1 n xs)) (wd1 n xs)) [] := by
  have g0 := bN_at hB (i := 0) (by omega)
  rw [h0] at g0
  rw [← zero3_iff xs n hx hB hn] at hz
  have hm3 := bs_mid xs 1 3
  generalize (xs.drop 1).take 3 = X3 at *
  have hC := refWFault_s (wd1 n xs) (by unfold wd1; simp only; omega)
  by_cases hlt : n < 8
  · rw [if_pos hlt, wdV_bad (by omega)]
    refine fn_intro Try.func51 rfl (Nat.le_of_ble_eq_true rfl) fun w0 A => ?_
    refine awp_seq ?_
    refine awp_text (by kernel_rfl) ?_
    (refine r_run (a_alloc 2 zr66 rfl) rfl rfl ⟨rfl, trivial⟩ ?_)
    (refine r_pure (a_assign (r := .p _)) rfl rfl ?_)
    refine arun_nil ?_
    refine awp_seq (awp_seq ?_)
    refine awp_text (by kernel_rfl) ?_
    (refine r_pure (a_move (r := .p _)) rfl rfl ?_)
    (refine r_pure (a_lenS Try.underlying42) rfl rfl ?_)
    (refine r_pure a_lss rfl rfl ?_)
    refine arun_nil ?_
    refine thn_n ?_
    refine awp_cond _ rfl (fun h => ?_) (fun h => ?_)
    · simp at h; omega
    clear h
    refine awp_skip (awp_seq ?_)
    refine awp_text (by kernel_rfl) ?_
    (refine r_pure (a_move (r := .p _)) rfl rfl ?_)
    (refine r_pure (a_indexAddrS Try.underlying42 sz5 (by omega) (by omega) rfl) rfl rfl ?_)
    (refine r_pure (a_load1p Try.underlying5 rfl (by rw [List.getElem?_drop]; exact g0)) rfl rfl ?_)
    (refine r_pure (a_conv Try.underlying5 Try.underlying3 (by first | exact IntWalk.i64_in _ (by omega) | rfl)) rfl rfl ?_)
    (refine r_pure (b_build pl66 zr66 rfl rfl) rfl rfl ?_)
    (refine r_run (a_alloc 4 zr66 rfl) rfl rfl ⟨rfl, trivial⟩ ?_)
    (refine r_run (a_storeAll (Y := .agg _) sz66 rfl (by first | exact Nat.eq_of_beq_eq_true rfl | (simp only [AV.cells, List.length_map]; first | assumption | omega)) (Nat.eq_of_beq_eq_true rfl)) rfl rfl ⟨rfl, trivial⟩ ?_)
    refine arun_nil ?_
    refine awp_seq ?_
    refine awp_text (by kernel_rfl) ?_
    (refine r_run (a_makeMap 16) rfl rfl ⟨rfl, trivial⟩ ?_)
    (refine r_run (a_insert Try.underlying125 Try.underlying3 rfl rfl) rfl rfl ⟨rfl, trivial⟩ ?_)
    (refine r_run (a_insert Try.underlying125 Try.underlying3 rfl rfl) rfl rfl ⟨rfl, trivial⟩ ?_)
    (refine r_run (a_insert Try.underlying125 Try.underlying3 rfl rfl) rfl rfl ⟨rfl, trivial⟩ ?_)
    (refine r_pure (a_move (r := .mp _)) rfl rfl ?_)
    (refine r_pure (b_fieldAddr fi66_0 rfl) rfl rfl ?_)
    (refine r_run (a_load1 Try.underlying3 rfl (by first | rfl | assumption)) rfl rfl ⟨rfl, trivial⟩ ?_)
    (refine r_run (a_lookup Try.underlying125 Try.underlying3 rfl zr3 rfl rfl rfl) rfl rfl ⟨rfl, trivial⟩ ?_)
    (refine r_pure (a_assign (r := .p _)) rfl rfl ?_)
    refine arun_nil ?_
    refine awp_seq (awp_seq ?_)
    refine awp_text (by kernel_rfl) ?_
    (refine r_pure (a_move (r := .p _)) rfl rfl ?_)
    (refine r_pure a_eql rfl rfl ?_)
    refine arun_nil ?_
    refine thn_n ?_
    refine awp_cond _ rfl (fun h => ?_) (fun h => ?_)
    · cases h
    clear h
    refine awp_skip (awp_seq (awp_seq ?_))
    refine awp_text (by kernel_rfl) ?_
    (refine r_pure (a_move (r := .p _)) rfl rfl ?_)
    (refine r_pure (a_sliceS (L := (some (_, _))) (H := (some (_, _))) Try.underlying42 sz5 ⟨by omega, (show _ = 1 from rfl)⟩ ⟨by omega, (show _ = 4 from rfl)⟩ (by omega) (by omega) (show _ = 3 from rfl) hm3) rfl rfl ?_)
    (refine r_run (a_b2s Try.underlying42 Try.underlying5 Try.underlying9 (src_sl) rfl rfl) rfl rfl trivial ?_)
    (refine r_pure a_sneq rfl rfl ?_)
    refine arun_nil ?_
    refine thn_n ?_
    refine awp_cond _ rfl (fun h => ?_) (fun h => ?_)
    · rw [hz] at h; simp at h
    clear h
    refine awp_skip (awp_seq (awp_seq ?_))
    refine awp_text (by kernel_rfl) ?_
    (refine r_pure (a_move (r := .p _)) rfl rfl ?_)
    (refine r_pure (a_lenS Try.underlying42) rfl rfl ?_)
    (refine r_pure (a_move (r := .p _)) rfl rfl ?_)
    (refine r_pure a_lss rfl rfl ?_)
    refine arun_nil ?_
    refine thn_n ?_
    refine awp_cond _ rfl (fun h => ?_) (fun h => ?_)
    · refine awp_seq ?_
      refine awp_text (by kernel_rfl) ?_
      (refine r_pure (b_build pl66 zr66 rfl rfl) rfl rfl ?_)
      (refine r_run (a_storeAll (Y := .agg _) sz66 rfl (by first | exact Nat.eq_of_beq_eq_true rfl | (simp only [AV.cells, List.length_map]; first | assumption | omega)) (Nat.eq_of_beq_eq_true rfl)) rfl rfl ⟨rfl, trivial⟩ ?_)
      (refine r_pure (a_assign (r := .p _)) rfl rfl ?_)
      refine arun_nil ?_
      refine awp_ret (thn_r ?_)
      refine ⟨(by first | exact .inl rfl | exact .inr rfl), _, (fun o => o), (.cellN _ _ _ _ _ _ _ _ _ rfl rfl Try.underlying66 rfl sz66 (by first | assumption | kernel_rfl) (.tmp _ _ _ _ rfl .nil)), ?_, rfl, ?_, rfl⟩
      · exact rfl
      · exact trivial
    · simp at h; omega
  rw [if_neg hlt]
  have q1 := numOf_s 4 ((xs.drop 4).take 4) (by rw [List.length_take, List.length_drop, hx]; omega) (fun x hx2 => isB_drop' hB 4 x (List.mem_of_mem_take hx2)) (by omega)
  rw [nv_take] at q1
  have m1 := bs_mid xs 4 4
  generalize (xs.drop 4).take 4 = Z1 at *
  have hcut := bs_cut (a := 8) hx rfl
  refine fn_intro Try.func51 rfl (Nat.le_of_ble_eq_true rfl) fun w0 A => ?_
  refine awp_seq ?_
  refine awp_text (by kernel_rfl) ?_
  (refine r_run (a_alloc 2 zr66 rfl) rfl rfl ⟨rfl, trivial⟩ ?_)
  (refine r_pure (a_assign (r := .p _)) rfl rfl ?_)
  refine arun_nil ?_
  refine awp_seq (awp_seq ?_)
  refine awp_text (by kernel_rfl) ?_
  (refine r_pure (a_move (r := .p _)) rfl rfl ?_)
  (refine r_pure (a_lenS Try.underlying42) rfl rfl ?_)
  (refine r_pure a_lss rfl rfl ?_)
  refine arun_nil ?_
  refine thn_n ?_
  refine awp_cond _ rfl (fun h => ?_) (fun h => ?_)
  · simp at h; omega
  clear h
  refine awp_skip (awp_seq ?_)
  refine awp_text (by kernel_rfl) ?_
  (refine r_pure (a_move (r := .p _)) rfl rfl ?_)
  (refine r_pure (a_indexAddrS Try.underlying42 sz5 (by omega) (by omega) rfl) rfl rfl ?_)
  (refine r_pure (a_load1p Try.underlying5 rfl (by rw [List.getElem?_drop]; exact g0)) rfl rfl ?_)
  (refine r_pure (a_conv Try.underlying5 Try.underlying3 (by first | exact IntWalk.i64_in _ (by omega) | rfl)) rfl rfl ?_)
  (refine r_pure (b_build pl66 zr66 rfl rfl) rfl rfl ?_)
  (refine r_run (a_alloc 4 zr66 rfl) rfl rfl ⟨rfl, trivial⟩ ?_)
  (refine r_run (a_storeAll (Y := .agg _) sz66 rfl (by first | exact Nat.eq_of_beq_eq_true rfl | (simp only [AV.cells, List.length_map]; first | assumption | omega)) (Nat.eq_of_beq_eq_true rfl)) rfl rfl ⟨rfl, trivial⟩ ?_)
  refine arun_nil ?_
  refine awp_seq ?_
  refine awp_text (by kernel_rfl) ?_
  (refine r_run (a_makeMap 16) rfl rfl ⟨rfl, trivial⟩ ?_)
  (refine r_run (a_insert Try.underlying125 Try.underlying3 rfl rfl) rfl rfl ⟨rfl, trivial⟩ ?_)
  (refine r_run (a_insert Try.underlying125 Try.underlying3 rfl rfl) rfl rfl ⟨rfl, trivial⟩ ?_)
  (refine r_run (a_insert Try.underlying125 Try.underlying3 rfl rfl) rfl rfl ⟨rfl, trivial⟩ ?_)
  (refine r_pure (a_move (r := .mp _)) rfl rfl ?_)
  (refine r_pure (b_fieldAddr fi66_0 rfl) rfl rfl ?_)
  (refine r_run (a_load1 Try.underlying3 rfl (by first | rfl | assumption)) rfl rfl ⟨rfl, trivial⟩ ?_)
  (refine r_run (a_lookup Try.underlying125 Try.underlying3 rfl zr3 rfl rfl rfl) rfl rfl ⟨rfl, trivial⟩ ?_)
  (refine r_pure (a_assign (r := .p _)) rfl rfl ?_)
  refine arun_nil ?_
  refine awp_seq (awp_seq ?_)
  refine awp_text (by kernel_rfl) ?_
  (refine r_pure (a_move (r := .p _)) rfl rfl ?_)
  (refine r_pure a_eql rfl rfl ?_)
  refine arun_nil ?_
  refine thn_n ?_
  refine awp_cond _ rfl (fun h => ?_) (fun h => ?_)
  · cases h
  clear h
  refine awp_skip (awp_seq (awp_seq ?_))
  refine awp_text (by kernel_rfl) ?_
  (refine r_pure (a_move (r := .p _)) rfl rfl ?_)
  (refine r_pure (a_sliceS (L := (some (_, _))) (H := (some (_, _))) Try.underlying42 sz5 ⟨by omega, (show _ = 1 from rfl)⟩ ⟨by omega, (show _ = 4 from rfl)⟩ (by omega) (by omega) (show _ = 3 from rfl) hm3) rfl rfl ?_)
  (refine r_run (a_b2s Try.underlying42 Try.underlying5 Try.underlying9 (src_sl) rfl rfl) rfl rfl trivial ?_)
  (refine r_pure a_sneq rfl rfl ?_)
  refine arun_nil ?_
  refine thn_n ?_
  refine awp_cond _ rfl (fun h => ?_) (fun h => ?_)
  · rw [hz] at h; simp at h
  clear h
  refine awp_skip (awp_seq (awp_seq ?_))
  refine awp_text (by kernel_rfl) ?_
  (refine r_pure (a_move (r := .p _)) rfl rfl ?_)
  (refine r_pure (a_lenS Try.underlying42) rfl rfl ?_)
  (refine r_pure (a_move (r := .p _)) rfl rfl ?_)
  (refine r_pure a_lss rfl rfl ?_)
  refine arun_nil ?_
  refine thn_n ?_
  refine awp_cond _ rfl (fun h => ?_) (fun h => ?_)
  · simp at h; omega
  clear h
  refine awp_skip (awp_seq (awp_seq ?_))
  refine awp_text (by kernel_rfl) ?_
  (refine r_pure (b_fieldAddr fi66_0 rfl) rfl rfl ?_)
  (refine r_run (a_load1 Try.underlying3 rfl (by first | rfl | assumption)) rfl rfl ⟨rfl, trivial⟩ ?_)
  refine arun_nil ?_
  refine awp_block (awp_seq ?_)
  refine awp_text (by kernel_rfl) ?_
  (refine r_pure a_eql rfl rfl ?_)
  (refine r_pure (a_assign (r := .p _)) rfl rfl ?_)
  refine arun_nil ?_
  refine thn_n ?_
  refine awp_cond _ rfl (fun h => ?_) (fun h => ?_)
  rotate_left
  · cases h
  clear h
  skip
  refine awp_text (by kernel_rfl) ?_
  (refine r_pure (a_move (r := .p _)) rfl rfl ?_)
  (refine r_pure (a_sliceS (L := (some (_, _))) (H := (some (_, _))) Try.underlying42 sz5 ⟨by omega, (show _ = 4 from rfl)⟩ ⟨by omega, (show _ = 8 from rfl)⟩ (by omega) (by omega) (show _ = 4 from rfl) m1) rfl rfl ?_)
  (refine r_callS (fun n => 40 + 1000 * n) (q1) rfl rfl Try.func96 rfl rfl (by first | rfl | simp [AV.okInL, AV.okIn, okInL_map]) rfl rfl rfl (by first | exact trivial | exact ⟨rfl, trivial⟩ | exact ⟨rfl, rfl, trivial⟩) rfl rfl rfl ?_)
  (refine r_pure (b_fieldAddr fi66_1 rfl) rfl rfl ?_)
  (refine r_run (a_store (Y := .p _) sz3 rfl (by first | exact Nat.eq_of_beq_eq_true rfl | (simp only [AV.cells, List.length_map]; first | assumption | omega)) (by first | exact Nat.le_of_ble_eq_true rfl | omega | (simp only [AV.cells, List.length_map]; omega)) (by first | (simp only [setR, AV.cells, List.take_succ_cons, List.take_zero, List.drop_succ_cons, List.drop_zero, List.drop_nil, List.take_nil, List.nil_append, List.cons_append, List.append_nil, List.length_cons, List.length_nil, Nat.reduceAdd, Nat.zero_add, Nat.add_zero]; rfl) | rfl)) rfl rfl ⟨rfl, trivial⟩ ?_)
  refine arun_nil ?_
  refine awp_seq ?_
  refine awp_text (by kernel_rfl) ?_
  (refine r_pure (a_move (r := .p _)) rfl rfl ?_)
  (refine r_pure (a_move (r := .p _)) rfl rfl ?_)
  (refine r_pure (a_sliceS (L := (some (_, _))) (H := none) Try.underlying42 sz5 ⟨by omega, rfl⟩ rfl (by omega) (by omega) rfl hcut) rfl rfl ?_)
  (refine r_run (a_appendNil 65 Try.underlying42 eo5 (src_sl) (by simp only [maxLen]; omega) (by omega)) rfl rfl ⟨rfl, trivial⟩ ?_)
  (refine r_pure (b_fieldAddr fi66_4 rfl) rfl rfl ?_)
  (refine r_run (a_store (Y := .row _) sz42 rfl (by first | exact Nat.eq_of_beq_eq_true rfl | (simp only [AV.cells, List.length_map]; first | assumption | omega)) (by first | exact Nat.le_of_ble_eq_true rfl | omega | (simp only [AV.cells, List.length_map]; omega)) (by first | (simp only [setR, AV.cells, List.take_succ_cons, List.take_zero, List.drop_succ_cons, List.drop_zero, List.drop_nil, List.take_nil, List.nil_append, List.cons_append, List.append_nil, List.length_cons, List.length_nil, Nat.reduceAdd, Nat.zero_add, Nat.add_zero]; rfl) | rfl)) rfl rfl ⟨rfl, trivial⟩ ?_)
  refine arun_nil ?_
  refine awp_seq (awp_seq ?_)
  refine awp_text (by kernel_rfl) ?_
  (refine r_run (a_loadN Try.underlying66 rfl sz66 (by first | exact Nat.le_of_ble_eq_true rfl | omega | (simp only [AV.cells, List.length_map]; omega)) (by first | exact take_all (by first | assumption | exact Nat.eq_of_beq_eq_true rfl | (simp only [AV.cells, List.length_map]; first | assumption | omega)) | (simp only [List.take_succ_cons, List.take_zero, List.drop_succ_cons, List.drop_zero]; rfl) | rfl)) rfl rfl ⟨rfl, trivial⟩ ?_)
  (refine r_callV (fun n => 68 + 1000 * n) (hC) rfl rfl Try.func47 rfl rfl (by first | rfl | simp [AV.noSl, AV.noSlL, AObj.noSl, PV.isV, bs_noSl]) (by first | rfl | simp [AV.noSl, AV.noSlL, AObj.noSl, PV.isV, bs_noSl]) rfl rfl rfl (by first | exact trivial | exact ⟨rfl, trivial⟩ | exact ⟨rfl, rfl, trivial⟩) rfl rfl rfl ?_)
  (refine r_pure (a_assign (r := .p _)) rfl rfl ?_)
  refine arun_nil ?_
  refine awp_seq ?_
  refine awp_text (by kernel_rfl) ?_
  (refine r_pure (a_move (r := .p _)) rfl rfl ?_)
  (refine r_pure a_neq rfl rfl ?_)
  refine arun_nil ?_
  refine thn_n ?_
  refine awp_cond _ rfl (fun h => ?_) (fun h => ?_)
  · rw [wdV_bad (by simpa using h)]
    refine awp_seq ?_
    refine awp_text (by kernel_rfl) ?_
    (refine r_pure (b_build pl66 zr66 rfl rfl) rfl rfl ?_)
    (refine r_pure (a_move (r := .p _)) rfl rfl ?_)
    (refine r_run (a_storeAll (Y := .agg _) sz66 rfl (by first | exact Nat.eq_of_beq_eq_true rfl | (simp only [AV.cells, List.length_map]; first | assumption | omega)) (Nat.eq_of_beq_eq_true rfl)) rfl rfl ⟨rfl, trivial⟩ ?_)
    (refine r_pure (a_assign (r := .p _)) rfl rfl ?_)
    refine arun_nil ?_
    refine awp_ret (thn_r ?_)
    refine ⟨(by first | exact .inl rfl | exact .inr rfl), _, (fun o => o), (.cellN _ _ _ _ _ _ _ _ _ rfl rfl Try.underlying66 rfl sz66 (by first | assumption | kernel_rfl) (.tmp _ _ _ _ rfl .nil)), ?_, rfl, ?_, rfl⟩
    · exact rfl
    · exact trivial
  · rw [wdV_good (by simpa using h)]
    refine awp_skip (awp_seq ?_)
    refine awp_text (by kernel_rfl) ?_
    (refine r_run (a_loadN Try.underlying66 rfl sz66 (by first | exact Nat.le_of_ble_eq_true rfl | omega | (simp only [AV.cells, List.length_map]; omega)) (by first | exact take_all (by first | assumption | exact Nat.eq_of_beq_eq_true rfl | (simp only [AV.cells, List.length_map]; first | assumption | omega)) | (simp only [List.take_succ_cons, List.take_zero, List.drop_succ_cons, List.drop_zero]; rfl) | rfl)) rfl rfl ⟨rfl, trivial⟩ ?_)
    (refine r_run (a_storeAll (Y := .agg _) sz66 rfl (by first | exact Nat.eq_of_beq_eq_true rfl | (simp only [AV.cells, List.length_map]; first | assumption | omega)) (Nat.eq_of_beq_eq_true rfl)) rfl rfl ⟨rfl, trivial⟩ ?_)
    (refine r_pure (a_assign (r := .p _)) rfl rfl ?_)
    refine arun_nil ?_
    refine awp_ret ?_
    refine ⟨(by first | exact .inl rfl | exact .inr rfl), _, (fun o => o), (.cellN _ _ _ _ _ _ _ _ _ rfl rfl Try.underlying66 rfl sz66 (by first | assumption | kernel_rfl) (.tmp _ _ _ _ rfl .nil)), ?_, rfl, ?_, rfl⟩
    · exact rfl
    · exact trivial

set_option maxHeartbeats 4000000 in
theorem wref2_s (n : Nat) (xs : List Int) (hx : xs.length = n) (hB : isB xs) (hn : 4 ≤ n) (hm : n ≤ 140737488351232) (h0 : bN xs 0 = 2) (hz : bN xs 1 = 0 ∧ bN xs 2 = 0 ∧ bN xs 3 = 0) : Fn Try.prog 51 [.p (.sl n 1 (bs xs))] (wdV (if n < 12 then 8 else wE (wd2 n xs)) (wd2 n xs)) [] := by
  have g0 := bN_at hB (i := 0) (by omega)
  rw [h0] at g0
  rw [← zero3_iff xs n hx hB hn] at hz
  have hm3 := bs_mid xs 1 3
  generalize (xs.drop 1).take 3 = X3 at *
  have hC := refWFault_s (wd2 n xs) (by unfold wd2; simp only; omega)
  by_cases hlt : n < 12
  · rw [if_pos hlt, wdV_bad (by omega)]
    refine fn_intro Try.func51 rfl (Nat.le_of_ble_eq_true rfl) fun w0 A => ?_
    refine awp_seq ?_
    refine awp_text (by kernel_rfl) ?_
    (refine r_run (a_alloc 2 zr66 rfl) rfl rfl ⟨rfl, trivial⟩ ?_)
    (refine r_pure (a_assign (r := .p _)) rfl rfl ?_)
    refine arun_nil ?_
    refine awp_seq (awp_seq ?_)
    refine awp_text (by kernel_rfl) ?_
    (refine r_pure (a_move (r := .p _)) rfl rfl ?_)
    (refine r_pure (a_lenS Try.underlying42) rfl rfl ?_)
    (refine r_pure a_lss rfl rfl ?_)
    refine arun_nil ?_
    refine thn_n ?_
    refine awp_cond _ rfl (fun h => ?_) (fun h => ?_)
    · simp at h; omega
    clear h
    refine awp_skip (awp_seq ?_)
    refine awp_text (by kernel_rfl) ?_
    (refine r_pure (a_move (r := .p _)) rfl rfl ?_)
    (refine r_pure (a_indexAddrS Try.underlying42 sz5 (by omega) (by omega) rfl) rfl rfl ?_)
    (refine r_pure (a_load1p Try.underlying5 rfl (by rw [List.getElem?_drop]; exact g0)) rfl rfl ?_)
    (refine r_pure (a_conv Try.underlying5 Try.underlying3 (by first | exact IntWalk.i64_in _ (by omega) | rfl)) rfl rfl ?_)
    (refine r_pure (b_build pl66 zr66 rfl rfl) rfl rfl ?_)
    (refine r_run (a_alloc 4 zr66 rfl) rfl rfl ⟨rfl, trivial⟩ ?_)
    (refine r_run (a_storeAll (Y := .agg _) sz66 rfl (by first | exact Nat.eq_of_beq_eq_true rfl | (simp only [AV.cells, List.length_map]; first | assumption | omega)) (Nat.eq_of_beq_eq_true rfl)) rfl rfl ⟨rfl, trivial⟩ ?_)
    refine arun_nil ?_
    refine awp_seq ?_
    refine awp_text (by kernel_rfl) ?_
    (refine r_run (a_makeMap 16) rfl rfl ⟨rfl, trivial⟩ ?_)
    (refine r_run (a_insert Try.underlying125 Try.underlying3 rfl rfl) rfl rfl ⟨rfl, trivial⟩ ?_)
    (refine r_run (a_insert Try.underlying125 Try.underlying3 rfl rfl) rfl rfl ⟨rfl, trivial⟩ ?_)
    (refine r_run (a_insert Try.underlying125 Try.underlying3 rfl rfl) rfl rfl ⟨rfl, trivial⟩ ?_)
    (refine r_pure (a_move (r := .mp _)) rfl rfl ?_)
    (refine r_pure (b_fieldAddr fi66_0 rfl) rfl rfl ?_)
    (refine r_run (a_load1 Try.underlying3 rfl (by first | rfl | assumption)) rfl rfl ⟨rfl, trivial⟩ ?_)
    (refine r_run (a_lookup Try.underlying125 Try.underlying3 rfl zr3 rfl rfl rfl) rfl rfl ⟨rfl, trivial⟩ ?_)
    (refine r_pure (a_assign (r := .p _)) rfl rfl ?_)
    refine arun_nil ?_
    refine awp_seq (awp_seq ?_)
    refine awp_text (by kernel_rfl) ?_
    (refine r_pure (a_move (r := .p _)) rfl rfl ?_)
    (refine r_pure a_eql rfl rfl ?_)
    refine arun_nil ?_
    refine thn_n ?_
    refine awp_cond _ rfl (fun h => ?_) (fun h => ?_)
    · cases h
    clear h
    refine awp_skip (awp_seq (awp_seq ?_))
    refine awp_text (by kernel_rfl) ?_
    (refine r_pure (a_move (r := .p _)) rfl rfl ?_)
    (refine r_pure (a_sliceS (L := (some (_, _))) (H := (some (_, _))) Try.underlying42 sz5 ⟨by omega, (show _ = 1 from rfl)⟩ ⟨by omega, (show _ = 4 from rfl)⟩ (by omega) (by omega) (show _ = 3 from rfl) hm3) rfl rfl ?_)
    (refine r_run (a_b2s Try.underlying42 Try.underlying5 Try.underlying9 (src_sl) rfl rfl) rfl rfl trivial ?_)
    (refine r_pure a_sneq rfl rfl ?_)
    refine arun_nil ?_
    refine thn_n ?_
    refine awp_cond _ rfl (fun h => ?_) (fun h => ?_)
    · rw [hz] at h; simp at h
    clear h
    refine awp_skip (awp_seq (awp_seq ?_))
    refine awp_text (by kernel_rfl) ?_
    (refine r_pure (a_move (r := .p _)) rfl rfl ?_)
    (refine r_pure (a_lenS Try.underlying42) rfl rfl ?_)
    (refine r_pure (a_move (r := .p _)) rfl rfl ?_)
    (refine r_pure a_lss rfl rfl ?_)
    refine arun_nil ?_
    refine thn_n ?_
    refine awp_cond _ rfl (fun h => ?_) (fun h => ?_)
    · refine awp_seq ?_
      refine awp_text (by kernel_rfl) ?_
      (refine r_pure (b_build pl66 zr66 rfl rfl) rfl rfl ?_)
      (refine r_run (a_storeAll (Y := .agg _) sz66 rfl (by first | exact Nat.eq_of_beq_eq_true rfl | (simp only [AV.cells, List.length_map]; first | assumption | omega)) (Nat.eq_of_beq_eq_true rfl)) rfl rfl ⟨rfl, trivial⟩ ?_)
      (refine r_pure (a_assign (r := .p _)) rfl rfl ?_)
      refine arun_nil ?_
      refine awp_ret (thn_r ?_)
      refine ⟨(by first | exact .inl rfl | exact .inr rfl), _, (fun o => o), (.cellN _ _ _ _ _ _ _ _ _ rfl rfl Try.underlying66 rfl sz66 (by first | assumption | kernel_rfl) (.tmp _ _ _ _ rfl .nil)), ?_, rfl, ?_, rfl⟩
      · exact rfl
      · exact trivial
    · simp at h; omega
  rw [if_neg hlt]
  have q1 := numOf_s 4 ((xs.drop 4).take 4) (by rw [List.length_take, List.length_drop, hx]; omega) (fun x hx2 => isB_drop' hB 4 x (List.mem_of_mem_take hx2)) (by omega)
  rw [nv_take] at q1
  have m1 := bs_mid xs 4 4
  generalize (xs.drop 4).take 4 = Z1 at *
  have q2 := numOf_s 4 ((xs.drop 8).take 4) (by rw [List.length_take, List.length_drop, hx]; omega) (fun x hx2 => isB_drop' hB 8 x (List.mem_of_mem_take hx2)) (by omega)
  rw [nv_take] at q2
  have m2 := bs_mid xs 8 4
  generalize (xs.drop 8).take 4 = Z2 at *
  have hcut := bs_cut (a := 12) hx rfl
  refine fn_intro Try.func51 rfl (Nat.le_of_ble_eq_true rfl) fun w0 A => ?_
  refine awp_seq ?_
  refine awp_text (by kernel_rfl) ?_
  (refine r_run (a_alloc 2 zr66 rfl) rfl rfl ⟨rfl, trivial⟩ ?_)
  (refine r_pure (a_assign (r := .p _)) rfl rfl ?_)
  refine arun_nil ?_
  refine awp_seq (awp_seq ?_)
  refine awp_text (by kernel_rfl) ?_
  (refine r_pure (a_move (r := .p _)) rfl rfl ?_)
  (refine r_pure (a_lenS Try.underlying42) rfl rfl ?_)
  (refine r_pure a_lss rfl rfl ?_)
  refine arun_nil ?_
  refine thn_n ?_
  refine awp_cond _ rfl (fun h => ?_) (fun h => ?_)
  · simp at h; omega
  clear h
  refine awp_skip (awp_seq ?_)
  refine awp_text (by kernel_rfl) ?_
  (refine r_pure (a_move (r := .p _)) rfl rfl ?_)
  (refine r_pure (a_indexAddrS Try.underlying42 sz5 (by omega) (by omega) rfl) rfl rfl ?_)
  (refine r_pure (a_load1p Try.underlying5 rfl (by rw [List.getElem?_drop]; exact g0)) rfl rfl ?_)
  (refine r_pure (a_conv Try.underlying5 Try.underlying3 (by first | exact IntWalk.i64_in _ (by omega) | rfl)) rfl rfl ?_)
  (refine r_pure (b_build pl66 zr66 rfl rfl) rfl rfl ?_)
  (refine r_run (a_alloc 4 zr66 rfl) rfl rfl ⟨rfl, trivial⟩ ?_)
  (refine r_run (a_storeAll (Y := .agg _) sz66 rfl (by first | exact Nat.eq_of_beq_eq_true rfl | (simp only [AV.cells, List.length_map]; first | assumption | omega)) (Nat.eq_of_beq_eq_true rfl)) rfl rfl ⟨rfl, trivial⟩ ?_)
  refine arun_nil ?_
  refine awp_seq ?_
  refine awp_text (by kernel_rfl) ?_
  (refine r_run (a_makeMap 16) rfl rfl ⟨rfl, trivial⟩ ?_)
  (refine r_run (a_insert Try.underlying125 Try.underlying3 rfl rfl) rfl rfl ⟨rfl, trivial⟩ ?_)
  (refine r_run (a_insert Try.underlying125 Try.underlying3 rfl rfl) rfl rfl ⟨rfl, trivial⟩ ?_)
  (refine r_run (a_insert Try.underlying125 Try.underlying3 rfl rfl) rfl rfl ⟨rfl, trivial⟩ ?_)
  (refine r_pure (a_move (r := .mp _)) rfl rfl ?_)
  (refine r_pure (b_fieldAddr fi66_0 rfl) rfl rfl ?_)
  (refine r_run (a_load1 Try.underlying3 rfl (by first | rfl | assumption)) rfl rfl ⟨rfl, trivial⟩ ?_)
  (refine r_run (a_lookup Try.underlying125 Try.underlying3 rfl zr3 rfl rfl rfl) rfl rfl ⟨rfl, trivial⟩ ?_)
  (refine r_pure (a_assign (r := .p _)) rfl rfl ?_)
  refine arun_nil ?_
  refine awp_seq (awp_seq ?_)
  refine awp_text (by kernel_rfl) ?_
  (refine r_pure (a_move (r := .p _)) rfl rfl ?_)
  (refine r_pure a_eql rfl rfl ?_)
  refine arun_nil ?_
  refine thn_n ?_
  refine awp_cond _ rfl (fun h => ?_) (fun h => ?_)
  · cases h
  clear h
  refine awp_skip (awp_seq (awp_seq ?_))
  refine awp_text (by kernel_rfl) ?_
  (refine r_pure (a_move (r := .p _)) rfl rfl ?_)
  (refine r_pure (a_sliceS (L := (some (_, _))) (H := (some (_, _))) Try.underlying42 sz5 ⟨by omega, (show _ = 1 from rfl)⟩ ⟨by omega, (show _ = 4 from rfl)⟩ (by omega) (by omega) (show _ = 3 from rfl) hm3) rfl rfl ?_)
  (refine r_run (a_b2s Try.underlying42 Try.underlying5 Try.underlying9 (src_sl) rfl rfl) rfl rfl trivial ?_)
  (refine r_pure a_sneq rfl rfl ?_)
  refine arun_nil ?_
  refine thn_n ?_
  refine awp_cond _ rfl (fun h => ?_) (fun h => ?_)
  · rw [hz] at h; simp at h
  clear h
  refine awp_skip (awp_seq (awp_seq ?_))
  refine awp_text (by kernel_rfl) ?_
  (refine r_pure (a_move (r := .p _)) rfl rfl ?_)
  (refine r_pure (a_lenS Try.underlying42) rfl rfl ?_)
  (refine r_pure (a_move (r := .p _)) rfl rfl ?_)
  (refine r_pure a_lss rfl rfl ?_)
  refine arun_nil ?_
  refine thn_n ?_
  refine awp_cond _ rfl (fun h => ?_) (fun h => ?_)
  · simp at h; omega
  clear h
  refine awp_skip (awp_seq (awp_seq ?_))
  refine awp_text (by kernel_rfl) ?_
  (refine r_pure (b_fieldAddr fi66_0 rfl) rfl rfl ?_)
  (refine r_run (a_load1 Try.underlying3 rfl (by first | rfl | assumption)) rfl rfl ⟨rfl, trivial⟩ ?_)
  refine arun_nil ?_
  refine awp_block (awp_seq ?_)
  refine awp_text (by kernel_rfl) ?_
  (refine r_pure a_eql rfl rfl ?_)
  (refine r_pure (a_assign (r := .p _)) rfl rfl ?_)
  refine arun_nil ?_
  refine thn_n ?_
  refine awp_cond _ rfl (fun h => ?_) (fun h => ?_)
  · cases h
  clear h
  refine awp_seq ?_
  refine awp_text (by kernel_rfl) ?_
  (refine r_pure a_eql rfl rfl ?_)
  (refine r_pure (a_assign (r := .p _)) rfl rfl ?_)
  refine arun_nil ?_
  refine thn_n ?_
  refine awp_cond _ rfl (fun h => ?_) (fun h => ?_)
  rotate_left
  · cases h
  clear h
  skip
  refine awp_draw 8 (by kernel_rfl) ?_
  (refine r_pure (a_move (r := .p _)) rfl rfl ?_)
  (refine r_pure (a_sliceS (L := (some (_, _))) (H := (some (_, _))) Try.underlying42 sz5 ⟨by omega, (show _ = 4 from rfl)⟩ ⟨by omega, (show _ = 8 from rfl)⟩ (by omega) (by omega) (show _ = 4 from rfl) m1) rfl rfl ?_)
  (refine r_callS (fun n => 46 + 1000 * n) (q1) rfl rfl Try.func96 rfl rfl (by first | rfl | simp [AV.okInL, AV.okIn, okInL_map]) rfl rfl rfl (by first | exact trivial | exact ⟨rfl, trivial⟩ | exact ⟨rfl, rfl, trivial⟩) rfl rfl rfl ?_)
  (refine r_pure (a_move (r := .p _)) rfl rfl ?_)
  (refine r_pure (a_sliceS (L := (some (_, _))) (H := (some (_, _))) Try.underlying42 sz5 ⟨by omega, (show _ = 8 from rfl)⟩ ⟨by omega, (show _ = 12 from rfl)⟩ (by omega) (by omega) (show _ = 4 from rfl) m2) rfl rfl ?_)
  (refine r_callS (fun n => 49 + 1000 * n) (q2) rfl rfl Try.func96 rfl rfl (by first | rfl | simp [AV.okInL, AV.okIn, okInL_map]) rfl rfl rfl (by first | exact trivial | exact ⟨rfl, trivial⟩ | exact ⟨rfl, rfl, trivial⟩) rfl rfl rfl ?_)
  (refine r_pure (b_fieldAddr fi66_1 rfl) rfl rfl ?_)
  (refine r_run (a_store (Y := .p _) sz3 rfl (by first | exact Nat.eq_of_beq_eq_true rfl | (simp only [AV.cells, List.length_map]; first | assumption | omega)) (by first | exact Nat.le_of_ble_eq_true rfl | omega | (simp only [AV.cells, List.length_map]; omega)) (by first | (simp only [setR, AV.cells, List.take_succ_cons, List.take_zero, List.drop_succ_cons, List.drop_zero, List.drop_nil, List.take_nil, List.nil_append, List.cons_append, List.append_nil, List.length_cons, List.length_nil, Nat.reduceAdd, Nat.zero_add, Nat.add_zero]; rfl) | rfl)) rfl rfl ⟨rfl, trivial⟩ ?_)
  (refine r_pure (b_fieldAddr fi66_2 rfl) rfl rfl ?_)
  (refine r_run (a_store (Y := .p _) sz3 rfl (by first | exact Nat.eq_of_beq_eq_true rfl | (simp only [AV.cells, List.length_map]; first | assumption | omega)) (by first | exact Nat.le_of_ble_eq_true rfl | omega | (simp only [AV.cells, List.length_map]; omega)) (by first | (simp only [setR, AV.cells, List.take_succ_cons, List.take_zero, List.drop_succ_cons, List.drop_zero, List.drop_nil, List.take_nil, List.nil_append, List.cons_append, List.append_nil, List.length_cons, List.length_nil, Nat.reduceAdd, Nat.zero_add, Nat.add_zero]; rfl) | rfl)) rfl rfl ⟨rfl, trivial⟩ ?_)
  refine arun_nil ⟨by kernel_rfl, ?_⟩
  refine awp_seq ?_
  refine awp_text (by kernel_rfl) ?_
  (refine r_pure (a_move (r := .p _)) rfl rfl ?_)
  (refine r_pure (a_move (r := .p _)) rfl rfl ?_)
  (refine r_pure (a_sliceS (L := (some (_, _))) (H := none) Try.underlying42 sz5 ⟨by omega, rfl⟩ rfl (by omega) (by omega) rfl hcut) rfl rfl ?_)
  (refine r_run (a_appendNil 65 Try.underlying42 eo5 (src_sl) (by simp only [maxLen]; omega) (by omega)) rfl rfl ⟨rfl, trivial⟩ ?_)
  (refine r_pure (b_fieldAddr fi66_4 rfl) rfl rfl ?_)
  (refine r_run (a_store (Y := .row _) sz42 rfl (by first | exact Nat.eq_of_beq_eq_true rfl | (simp only [AV.cells, List.length_map]; first | assumption | omega)) (by first | exact Nat.le_of_ble_eq_true rfl | omega | (simp only [AV.cells, List.length_map]; omega)) (by first | (simp only [setR, AV.cells, List.take_succ_cons, List.take_zero, List.drop_succ_cons, List.drop_zero, List.drop_nil, List.take_nil, List.nil_append, List.cons_append, List.append_nil, List.length_cons, List.length_nil, Nat.reduceAdd, Nat.zero_add, Nat.add_zero]; rfl) | rfl)) rfl rfl ⟨rfl, trivial⟩ ?_)
  refine arun_nil ?_
  refine awp_seq (awp_seq ?_)
  refine awp_text (by kernel_rfl) ?_
  (refine r_run (a_loadN Try.underlying66 rfl sz66 (by first | exact Nat.le_of_ble_eq_true rfl | omega | (simp only [AV.cells, List.length_map]; omega)) (by first | exact take_all (by first | assumption | exact Nat.eq_of_beq_eq_true rfl | (simp only [AV.cells, List.length_map]; first | assumption | omega)) | (simp only [List.take_succ_cons, List.take_zero, List.drop_succ_cons, List.drop_zero]; rfl) | rfl)) rfl rfl ⟨rfl, trivial⟩ ?_)
  (refine r_callV (fun n => 68 + 1000 * n) (hC) rfl rfl Try.func47 rfl rfl (by first | rfl | simp [AV.noSl, AV.noSlL, AObj.noSl, PV.isV, bs_noSl]) (by first | rfl | simp [AV.noSl, AV.noSlL, AObj.noSl, PV.isV, bs_noSl]) rfl rfl rfl (by first | exact trivial | exact ⟨rfl, trivial⟩ | exact ⟨rfl, rfl, trivial⟩) rfl rfl rfl ?_)
  (refine r_pure (a_assign (r := .p _)) rfl rfl ?_)
  refine arun_nil ?_
  refine awp_seq ?_
  refine awp_text (by kernel_rfl) ?_
  (refine r_pure (a_move (r := .p _)) rfl rfl ?_)
  (refine r_pure a_neq rfl rfl ?_)
  refine arun_nil ?_
  refine thn_n ?_
  refine awp_cond _ rfl (fun h => ?_) (fun h => ?_)
  · rw [wdV_bad (by simpa using h)]
    refine awp_seq ?_
    refine awp_text (by kernel_rfl) ?_
    (refine r_pure (b_build pl66 zr66 rfl rfl) rfl rfl ?_)
    (refine r_pure (a_move (r := .p _)) rfl rfl ?_)
    (refine r_run (a_storeAll (Y := .agg _) sz66 rfl (by first | exact Nat.eq_of_beq_eq_true rfl | (simp only [AV.cells, List.length_map]; first | assumption | omega)) (Nat.eq_of_beq_eq_true rfl)) rfl rfl ⟨rfl, trivial⟩ ?_)
    (refine r_pure (a_assign (r := .p _)) rfl rfl ?_)
    refine arun_nil ?_
    refine awp_ret (thn_r ?_)
    refine ⟨(by first | exact .inl rfl | exact .inr rfl), _, (fun o => o), (.cellN _ _ _ _ _ _ _ _ _ rfl rfl Try.underlying66 rfl sz66 (by first | assumption | kernel_rfl) (.tmp _ _ _ _ rfl .nil)), ?_, rfl, ?_, rfl⟩
    · exact rfl
    · exact trivial
  · rw [wdV_good (by simpa using h)]
    refine awp_skip (awp_seq ?_)
    refine awp_text (by kernel_rfl) ?_
    (refine r_run (a_loadN Try.underlying66 rfl sz66 (by first | exact Nat.le_of_ble_eq_true rfl | omega | (simp only [AV.cells, List.length_map]; omega)) (by first | exact take_all (by first | assumption | exact Nat.eq_of_beq_eq_true rfl | (simp only [AV.cells, List.length_map]; first | assumption | omega)) | (simp only [List.take_succ_cons, List.take_zero, List.drop_succ_cons, List.drop_zero]; rfl) | rfl)) rfl rfl ⟨rfl, trivial⟩ ?_)
    (refine r_run (a_storeAll (Y := .agg _) sz66 rfl (by first | exact Nat.eq_of_beq_eq_true rfl | (simp only [AV.cells, List.length_map]; first | assumption | omega)) (Nat.eq_of_beq_eq_true rfl)) rfl rfl ⟨rfl, trivial⟩ ?_)
    (refine r_pure (a_assign (r := .p _)) rfl rfl ?_)
    refine arun_nil ?_
    refine awp_ret ?_
    refine ⟨(by first | exact .inl rfl | exact .inr rfl), _, (fun o => o), (.cellN _ _ _ _ _ _ _ _ _ rfl rfl Try.underlying66 rfl sz66 (by first | assumption | kernel_rfl) (.tmp _ _ _ _ rfl .nil)), ?_, rfl, ?_, rfl⟩
    · exact rfl
    · exact trivial

set_option maxHeartbeats 4000000 in
theorem wref4_s (n : Nat) (xs : List Int) (hx : xs.length = n) (hB : isB xs) (hn : 4 ≤ n) (hm : n ≤ 140737488351232) (h0 : bN xs 0 = 4) (hz : bN xs 1 = 0 ∧ bN xs 2 = 0 ∧ bN xs 3 = 0) : Fn Try.prog 51 [.p (.sl n 1 (bs xs))] (wdV (if n < 16 then 8 else wE (wd4 n xs)) (wd4 n xs)) [] := by
  have g0 := bN_at hB (i := 0) (by omega)
  rw [h0] at g0
  rw [← zero3_iff xs n hx hB hn] at hz
  have hm3 := bs_mid xs 1 3
  generalize (xs.drop 1).take 3 = X3 at *
  have hC := refWFault_s (wd4 n xs) (by unfold wd4; simp only; omega)
  by_cases hlt : n < 16
  · rw [if_pos hlt, wdV_bad (by omega)]
    refine fn_intro Try.func51 rfl (Nat.le_of_ble_eq_true rfl) fun w0 A => ?_
    refine awp_seq ?_
    refine awp_text (by kernel_rfl) ?_
    (refine r_run (a_alloc 2 zr66 rfl) rfl rfl ⟨rfl, trivial⟩ ?_)
    (refine r_pure (a_assign (r := .p _)) rfl rfl ?_)
    refine arun_nil ?_
    refine awp_seq (awp_seq ?_)
    refine awp_text (by kernel_rfl) ?_
    (refine r_pure (a_move (r := .p _)) rfl rfl ?_)
    (refine r_pure (a_lenS Try.underlying42) rfl rfl ?_)
    (refine r_pure a_lss rfl rfl ?_)
    refine arun_nil ?_
    refine thn_n ?_
    refine awp_cond _ rfl (fun h => ?_) (fun h => ?_)
    · simp at h; omega
    clear h
    refine awp_skip (awp_seq ?_)
    refine awp_text (by kernel_rfl) ?_
    (refine r_pure (a_move (r := .p _)) rfl rfl ?_)
    (refine r_pure (a_indexAddrS Try.underlying42 sz5 (by omega) (by omega) rfl) rfl rfl ?_)
    (refine r_pure (a_load1p Try.underlying5 rfl (by rw [List.getElem?_drop]; exact g0)) rfl rfl ?_)
    (refine r_pure (a_conv Try.underlying5 Try.underlying3 (by first | exact IntWalk.i64_in _ (by omega) | rfl)) rfl rfl ?_)
    (refine r_pure (b_build pl66 zr66 rfl rfl) rfl rfl ?_)
    (refine r_run (a_alloc 4 zr66 rfl) rfl rfl ⟨rfl, trivial⟩ ?_)
    (refine r_run (a_storeAll (Y := .agg _) sz66 rfl (by first | exact Nat.eq_of_beq_eq_true rfl | (simp only [AV.cells, List.length_map]; first | assumption | omega)) (Nat.eq_of_beq_eq_true rfl)) rfl rfl ⟨rfl, trivial⟩ ?_)
    refine arun_nil ?_
    refine awp_seq ?_
    refine awp_text (by kernel_rfl) ?_
    (refine r_run (a_makeMap 16) rfl rfl ⟨rfl, trivial⟩ ?_)
    (refine r_run (a_insert Try.underlying125 Try.underlying3 rfl rfl) rfl rfl ⟨rfl, trivial⟩ ?_)
    (refine r_run (a_insert Try.underlying125 Try.underlying3 rfl rfl) rfl rfl ⟨rfl, trivial⟩ ?_)
    (refine r_run (a_insert Try.underlying125 Try.underlying3 rfl rfl) rfl rfl ⟨rfl, trivial⟩ ?_)
    (refine r_pure (a_move (r := .mp _)) rfl rfl ?_)
    (refine r_pure (b_fieldAddr fi66_0 rfl) rfl rfl ?_)
    (refine r_run (a_load1 Try.underlying3 rfl (by first | rfl | assumption)) rfl rfl ⟨rfl, trivial⟩ ?_)
    (refine r_run (a_lookup Try.underlying125 Try.underlying3 rfl zr3 rfl rfl rfl) rfl rfl ⟨rfl, trivial⟩ ?_)
    (refine r_pure (a_assign (r := .p _)) rfl rfl ?_)
    refine arun_nil ?_
    refine awp_seq (awp_seq ?_)
    refine awp_text (by kernel_rfl) ?_
    (refine r_pure (a_move (r := .p _)) rfl rfl ?_)
    (refine r_pure a_eql rfl rfl ?_)
    refine arun_nil ?_
    refine thn_n ?_
    refine awp_cond _ rfl (fun h => ?_) (fun h => ?_)
    · cases h
    clear h
    refine awp_skip (awp_seq (awp_seq ?_))
    refine awp_text (by kernel_rfl) ?_
    (refine r_pure (a_move (r := .p _)) rfl rfl ?_)
    (refine r_pure (a_sliceS (L := (some (_, _))) (H := (some (_, _))) Try.underlying42 sz5 ⟨by omega, (show _ = 1 from rfl)⟩ ⟨by omega, (show _ = 4 from rfl)⟩ (by omega) (by omega) (show _ = 3 from rfl) hm3) rfl rfl ?_)
    (refine r_run (a_b2s Try.underlying42 Try.underlying5 Try.underlying9 (src_sl) rfl rfl) rfl rfl trivial ?_)
    (refine r_pure a_sneq rfl rfl ?_)
    refine arun_nil ?_
    refine thn_n ?_
    refine awp_cond _ rfl (fun h => ?_) (fun h => ?_)
    · rw [hz] at h; simp at h
    clear h
    refine awp_skip (awp_seq (awp_seq ?_))
    refine awp_text (by kernel_rfl) ?_
    (refine r_pure (a_move (r := .p _)) rfl rfl ?_)
    (refine r_pure (a_lenS Try.underlying42) rfl rfl ?_)
    (refine r_pure (a_move (r := .p _)) rfl rfl ?_)
    (refine r_pure a_lss rfl rfl ?_)
    refine arun_nil ?_
    refine thn_n ?_
    refine awp_cond _ rfl (fun h => ?_) (fun h => ?_)
    · refine awp_seq ?_
      refine awp_text (by kernel_rfl) ?_
      (refine r_pure (b_build pl66 zr66 rfl rfl) rfl rfl ?_)
      (refine r_run (a_storeAll (Y := .agg _) sz66 rfl (by first | exact Nat.eq_of_beq_eq_true rfl | (simp only [AV.cells, List.length_map]; first | assumption | omega)) (Nat.eq_of_beq_eq_true rfl)) rfl rfl ⟨rfl, trivial⟩ ?_)
      (refine r_pure (a_assign (r := .p _)) rfl rfl ?_)
      refine arun_nil ?_
      refine awp_ret (thn_r ?_)
      refine ⟨(by first | exact .inl rfl | exact .inr rfl), _, (fun o => o), (.cellN _ _ _ _ _ _ _ _ _ rfl rfl Try.underlying66 rfl sz66 (by first | assumption | kernel_rfl) (.tmp _ _ _ _ rfl .nil)), ?_, rfl, ?_, rfl⟩
      · exact rfl
      · exact trivial
    · simp at h; omega
  rw [if_neg hlt]
  have q1 := numOf_s 4 ((xs.drop 4).take 4) (by rw [List.length_take, List.length_drop, hx]; omega) (fun x hx2 => isB_drop' hB 4 x (List.mem_of_mem_take hx2)) (by omega)
  rw [nv_take] at q1
  have m1 := bs_mid xs 4 4
  generalize (xs.drop 4).take 4 = Z1 at *
  have q2 := numOf_s 8 ((xs.drop 8).take 8) (by rw [List.length_take, List.length_drop, hx]; omega) (fun x hx2 => isB_drop' hB 8 x (List.mem_of_mem_take hx2)) (by omega)
  rw [nv_take] at q2
  have m2 := bs_mid xs 8 8
  generalize (xs.drop 8).take 8 = Z2 at *
  have hcut := bs_cut (a := 16) hx rfl
  refine fn_intro Try.func51 rfl (Nat.le_of_ble_eq_true rfl) fun w0 A => ?_
  refine awp_seq ?_
  refine awp_text (by kernel_rfl) ?_
  (refine r_run (a_alloc 2 zr66 rfl) rfl rfl ⟨rfl, trivial⟩ ?_)
  (refine r_pure (a_assign (r := .p _)) rfl rfl ?_)
  refine arun_nil ?_
  refine awp_seq (awp_seq ?_)
  refine awp_text (by kernel_rfl) ?_
  (refine r_pure (a_move (r := .p _)) rfl rfl ?_)
  (refine r_pure (a_lenS Try.underlying42) rfl rfl ?_)
  (refine r_pure a_lss rfl rfl ?_)
  refine arun_nil ?_
  refine thn_n ?_
  refine awp_cond _ rfl (fun h => ?_) (fun h => ?_)
  · simp at h; omega
  clear h
  refine awp_skip (awp_seq ?_)
  refine awp_text (by kernel_rfl) ?_
  (refine r_pure (a_move (r := .p _)) rfl rfl ?_)
  (refine r_pure (a_indexAddrS Try.underlying42 sz5 (by omega) (by omega) rfl) rfl rfl ?_)
  (refine r_pure (a_load1p Try.underlying5 rfl (by rw [List.getElem?_drop]; exact g0)) rfl rfl ?_)
  (refine r_pure (a_conv Try.underlying5 Try.underlying3 (by first | exact IntWalk.i64_in _ (by omega) | rfl)) rfl rfl ?_)
  (refine r_pure (b_build pl66 zr66 rfl rfl) rfl rfl ?_)
  (refine r_run (a_alloc 4 zr66 rfl) rfl rfl ⟨rfl, trivial⟩ ?_)
  (refine r_run (a_storeAll (Y := .agg _) sz66 rfl (by first | exact Nat.eq_of_beq_eq_true rfl | (simp only [AV.cells, List.length_map]; first | assumption | omega)) (Nat.eq_of_beq_eq_true rfl)) rfl rfl ⟨rfl, trivial⟩ ?_)
  refine arun_nil ?_
  refine awp_seq ?_
  refine awp_text (by kernel_rfl) ?_
  (refine r_run (a_makeMap 16) rfl rfl ⟨rfl, trivial⟩ ?_)
  (refine r_run (a_insert Try.underlying125 Try.underlying3 rfl rfl) rfl rfl ⟨rfl, trivial⟩ ?_)
  (refine r_run (a_insert Try.underlying125 Try.underlying3 rfl rfl) rfl rfl ⟨rfl, trivial⟩ ?_)
  (refine r_run (a_insert Try.underlying125 Try.underlying3 rfl rfl) rfl rfl ⟨rfl, trivial⟩ ?_)
  (refine r_pure (a_move (r := .mp _)) rfl rfl ?_)
  (refine r_pure (b_fieldAddr fi66_0 rfl) rfl rfl ?_)
  (refine r_run (a_load1 Try.underlying3 rfl (by first | rfl | assumption)) rfl rfl ⟨rfl, trivial⟩ ?_)
  (refine r_run (a_lookup Try.underlying125 Try.underlying3 rfl zr3 rfl rfl rfl) rfl rfl ⟨rfl, trivial⟩ ?_)
  (refine r_pure (a_assign (r := .p _)) rfl rfl ?_)
  refine arun_nil ?_
  refine awp_seq (awp_seq ?_)
  refine awp_text (by kernel_rfl) ?_
  (refine r_pure (a_move (r := .p _)) rfl rfl ?_)
  (refine r_pure a_eql rfl rfl ?_)
  refine arun_nil ?_
  refine thn_n ?_
  refine awp_cond _ rfl (fun h => ?_) (fun h => ?_)
  · cases h
  clear h
  refine awp_skip (awp_seq (awp_seq ?_))
  refine awp_text (by kernel_rfl) ?_
  (refine r_pure (a_move (r := .p _)) rfl rfl ?_)
  (refine r_pure (a_sliceS (L := (some (_, _))) (H := (some (_, _))) Try.underlying42 sz5 ⟨by omega, (show _ = 1 from rfl)⟩ ⟨by omega, (show _ = 4 from rfl)⟩ (by omega) (by omega) (show _ = 3 from rfl) hm3) rfl rfl ?_)
  (refine r_run (a_b2s Try.underlying42 Try.underlying5 Try.underlying9 (src_sl) rfl rfl) rfl rfl trivial ?_)
  (refine r_pure a_sneq rfl rfl ?_)
  refine arun_nil ?_
  refine thn_n ?_
  refine awp_cond _ rfl (fun h => ?_) (fun h => ?_)
  · rw [hz] at h; simp at h
  clear h
  refine awp_skip (awp_seq (awp_seq ?_))
  refine awp_text (by kernel_rfl) ?_
  (refine r_pure (a_move (r := .p _)) rfl rfl ?_)
  (refine r_pure (a_lenS Try.underlying42) rfl rfl ?_)
  (refine r_pure (a_move (r := .p _)) rfl rfl ?_)
  (refine r_pure a_lss rfl rfl ?_)
  refine arun_nil ?_
  refine thn_n ?_
  refine awp_cond _ rfl (fun h => ?_) (fun h => ?_)
  · simp at h; omega
  clear h
  refine awp_skip (awp_seq (awp_seq ?_))
  refine awp_text (by kernel_rfl) ?_
  (refine r_pure (b_fieldAddr fi66_0 rfl) rfl rfl ?_)
  (refine r_run (a_load1 Try.underlying3 rfl (by first | rfl | assumption)) rfl rfl ⟨rfl, trivial⟩ ?_)
  refine arun_nil ?_
  refine awp_block (awp_seq ?_)
  refine awp_text (by kernel_rfl) ?_
  (refine r_pure a_eql rfl rfl ?_)
  (refine r_pure (a_assign (r := .p _)) rfl rfl ?_)
  refine arun_nil ?_
  refine thn_n ?_
  refine awp_cond _ rfl (fun h => ?_) (fun h => ?_)
  · cases h
  clear h
  refine awp_seq ?_
  refine awp_text (by kernel_rfl) ?_
  (refine r_pure a_eql rfl rfl ?_)
  (refine r_pure (a_assign (r := .p _)) rfl rfl ?_)
  refine arun_nil ?_
  refine thn_n ?_
  refine awp_cond _ rfl (fun h => ?_) (fun h => ?_)
  · cases h
  clear h
  refine awp_seq ?_
  refine awp_text (by kernel_rfl) ?_
  (refine r_pure a_eql rfl rfl ?_)
  (refine r_pure (a_assign (r := .p _)) rfl rfl ?_)
  refine arun_nil ?_
  refine thn_n ?_
  refine awp_cond _ rfl (fun h => ?_) (fun h => ?_)
  rotate_left
  · cases h
  clear h
  skip
  refine awp_draw 8 (by kernel_rfl) ?_
  (refine r_pure (a_move (r := .p _)) rfl rfl ?_)
  (refine r_pure (a_sliceS (L := (some (_, _))) (H := (some (_, _))) Try.underlying42 sz5 ⟨by omega, (show _ = 4 from rfl)⟩ ⟨by omega, (show _ = 8 from rfl)⟩ (by omega) (by omega) (show _ = 4 from rfl) m1) rfl rfl ?_)
  (refine r_callS (fun n => 56 + 1000 * n) (q1) rfl rfl Try.func96 rfl rfl (by first | rfl | simp [AV.okInL, AV.okIn, okInL_map]) rfl rfl rfl (by first | exact trivial | exact ⟨rfl, trivial⟩ | exact ⟨rfl, rfl, trivial⟩) rfl rfl rfl ?_)
  (refine r_pure (a_move (r := .p _)) rfl rfl ?_)
  (refine r_pure (a_sliceS (L := (some (_, _))) (H := (some (_, _))) Try.underlying42 sz5 ⟨by omega, (show _ = 8 from rfl)⟩ ⟨by omega, (show _ = 16 from rfl)⟩ (by omega) (by omega) (show _ = 8 from rfl) m2) rfl rfl ?_)
  (refine r_callS (fun n => 59 + 1000 * n) (q2) rfl rfl Try.func96 rfl rfl (by first | rfl | simp [AV.okInL, AV.okIn, okInL_map]) rfl rfl rfl (by first | exact trivial | exact ⟨rfl, trivial⟩ | exact ⟨rfl, rfl, trivial⟩) rfl rfl rfl ?_)
  (refine r_pure (b_fieldAddr fi66_2 rfl) rfl rfl ?_)
  (refine r_run (a_store (Y := .p _) sz3 rfl (by first | exact Nat.eq_of_beq_eq_true rfl | (simp only [AV.cells, List.length_map]; first | assumption | omega)) (by first | exact Nat.le_of_ble_eq_true rfl | omega | (simp only [AV.cells, List.length_map]; omega)) (by first | (simp only [setR, AV.cells, List.take_succ_cons, List.take_zero, List.drop_succ_cons, List.drop_zero, List.drop_nil, List.take_nil, List.nil_append, List.cons_append, List.append_nil, List.length_cons, List.length_nil, Nat.reduceAdd, Nat.zero_add, Nat.add_zero]; rfl) | rfl)) rfl rfl ⟨rfl, trivial⟩ ?_)
  (refine r_pure (b_fieldAddr fi66_3 rfl) rfl rfl ?_)
  (refine r_run (a_store (Y := .p _) sz3 rfl (by first | exact Nat.eq_of_beq_eq_true rfl | (simp only [AV.cells, List.length_map]; first | assumption | omega)) (by first | exact Nat.le_of_ble_eq_true rfl | omega | (simp only [AV.cells, List.length_map]; omega)) (by first | (simp only [setR, AV.cells, List.take_succ_cons, List.take_zero, List.drop_succ_cons, List.drop_zero, List.drop_nil, List.take_nil, List.nil_append, List.cons_append, List.append_nil, List.length_cons, List.length_nil, Nat.reduceAdd, Nat.zero_add, Nat.add_zero]; rfl) | rfl)) rfl rfl ⟨rfl, trivial⟩ ?_)
  refine arun_nil ⟨by kernel_rfl, ?_⟩
  refine awp_seq ?_
  refine awp_text (by kernel_rfl) ?_
  (refine r_pure (a_move (r := .p _)) rfl rfl ?_)
  (refine r_pure (a_move (r := .p _)) rfl rfl ?_)
  (refine r_pure (a_sliceS (L := (some (_, _))) (H := none) Try.underlying42 sz5 ⟨by omega, rfl⟩ rfl (by omega) (by omega) rfl hcut) rfl rfl ?_)
  (refine r_run (a_appendNil 65 Try.underlying42 eo5 (src_sl) (by simp only [maxLen]; omega) (by omega)) rfl rfl ⟨rfl, trivial⟩ ?_)
  (refine r_pure (b_fieldAddr fi66_4 rfl) rfl rfl ?_)
  (refine r_run (a_store (Y := .row _) sz42 rfl (by first | exact Nat.eq_of_beq_eq_true rfl | (simp only [AV.cells, List.length_map]; first | assumption | omega)) (by first | exact Nat.le_of_ble_eq_true rfl | omega | (simp only [AV.cells, List.length_map]; omega)) (by first | (simp only [setR, AV.cells, List.take_succ_cons, List.take_zero, List.drop_succ_cons, List.drop_zero, List.drop_nil, List.take_nil, List.nil_append, List.cons_append, List.append_nil, List.length_cons, List.length_nil, Nat.reduceAdd, Nat.zero_add, Nat.add_zero]; rfl) | rfl)) rfl rfl ⟨rfl, trivial⟩ ?_)
  refine arun_nil ?_
  refine awp_seq (awp_seq ?_)
  refine awp_text (by kernel_rfl) ?_
  (refine r_run (a_loadN Try.underlying66 rfl sz66 (by first | exact Nat.le_of_ble_eq_true rfl | omega | (simp only [AV.cells, List.length_map]; omega)) (by first | exact take_all (by first | assumption | exact Nat.eq_of_beq_eq_true rfl | (simp only [AV.cells, List.length_map]; first | assumption | omega)) | (simp only [List.take_succ_cons, List.take_zero, List.drop_succ_cons, List.drop_zero]; rfl) | rfl)) rfl rfl ⟨rfl, trivial⟩ ?_)
  (refine r_callV (fun n => 68 + 1000 * n) (hC) rfl rfl Try.func47 rfl rfl (by first | rfl | simp [AV.noSl, AV.noSlL, AObj.noSl, PV.isV, bs_noSl]) (by first | rfl | simp [AV.noSl, AV.noSlL, AObj.noSl, PV.isV, bs_noSl]) rfl rfl rfl (by first | exact trivial | exact ⟨rfl, trivial⟩ | exact ⟨rfl, rfl, trivial⟩) rfl rfl rfl ?_)
  (refine r_pure (a_assign (r := .p _)) rfl rfl ?_)
  refine arun_nil ?_
  refine awp_seq ?_
  refine awp_text (by kernel_rfl) ?_
  (refine r_pure (a_move (r := .p _)) rfl rfl ?_)
  (refine r_pure a_neq rfl rfl ?_)
  refine arun_nil ?_
  refine thn_n ?_
  refine awp_cond _ rfl (fun h => ?_) (fun h => ?_)
  · rw [wdV_bad (by simpa using h)]
    refine awp_seq ?_
    refine awp_text (by kernel_rfl) ?_
    (refine r_pure (b_build pl66 zr66 rfl rfl) rfl rfl ?_)
    (refine r_pure (a_move (r := .p _)) rfl rfl ?_)
    (refine r_run (a_storeAll (Y := .agg _) sz66 rfl (by first | exact Nat.eq_of_beq_eq_true rfl | (simp only [AV.cells, List.length_map]; first | assumption | omega)) (Nat.eq_of_beq_eq_true rfl)) rfl rfl ⟨rfl, trivial⟩ ?_)
    (refine r_pure (a_assign (r := .p _)) rfl rfl ?_)
    refine arun_nil ?_
    refine awp_ret (thn_r ?_)
    refine ⟨(by first | exact .inl rfl | exact .inr rfl), _, (fun o => o), (.cellN _ _ _ _ _ _ _ _ _ rfl rfl Try.underlying66 rfl sz66 (by first | assumption | kernel_rfl) (.tmp _ _ _ _ rfl .nil)), ?_, rfl, ?_, rfl⟩
    · exact rfl
    · exact trivial
  · rw [wdV_good (by simpa using h)]
    refine awp_skip (awp_seq ?_)
    refine awp_text (by kernel_rfl) ?_
    (refine r_run (a_loadN Try.underlying66 rfl sz66 (by first | exact Nat.le_of_ble_eq_true rfl | omega | (simp only [AV.cells, List.length_map]; omega)) (by first | exact take_all (by first | assumption | exact Nat.eq_of_beq_eq_true rfl | (simp only [AV.cells, List.length_map]; first | assumption | omega)) | (simp only [List.take_succ_cons, List.take_zero, List.drop_succ_cons, List.drop_zero]; rfl) | rfl)) rfl rfl ⟨rfl, trivial⟩ ?_)
    (refine r_run (a_storeAll (Y := .agg _) sz66 rfl (by first | exact Nat.eq_of_beq_eq_true rfl | (simp only [AV.cells, List.length_map]; first | assumption | omega)) (Nat.eq_of_beq_eq_true rfl)) rfl rfl ⟨rfl, trivial⟩ ?_)
    (refine r_pure (a_assign (r := .p _)) rfl rfl ?_)
    refine arun_nil ?_
    refine awp_ret ?_
    refine ⟨(by first | exact .inl rfl | exact .inr rfl), _, (fun o => o), (.cellN _ _ _ _ _ _ _ _ _ rfl rfl Try.underlying66 rfl sz66 (by first | assumption | kernel_rfl) (.tmp _ _ _ _ rfl .nil)), ?_, rfl, ?_, rfl⟩
    · exact rfl
    · exact trivial

end Go.Proofs.Ytfnipohlkifkhaa
