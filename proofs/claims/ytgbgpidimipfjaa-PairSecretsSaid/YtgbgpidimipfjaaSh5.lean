/- sha.block, over data. -/
import Derived.Test.YtgbgpidimipfjaaSh4
namespace Go.Proofs.Ytgbgpidimipfjaa
open Go.RowKit Go.Sort
set_option linter.unusedVariables false
set_option linter.unusedSimpArgs false
set_option maxRecDepth 100000

theorem iuA_ren (ρ : Nat → Nat) (xs : List Int) : (AV.agg (iu xs)).ren ρ = .agg (iu xs) := congrArg AV.agg (iu_ren ρ xs)
structure V8 where
  a : Int
  b : Int
  c : Int
  d : Int
  e : Int
  f : Int
  g : Int
  h : Int
def V8.l (v : V8) : List Int := [v.a, v.b, v.c, v.d, v.e, v.f, v.g, v.h]
def nt (e : Int) : Int := bits .xor .u32 (if IntKind.u32.signed then -1 else IntKind.u32.max) e
def ch (e f g : Int) : Int := xr (an e f) (an (nt e) g)
def mj (a b c : Int) : Int := xr (xr (an a b) (an a c)) (an b c)
def one (k w : Int) (v : V8) : Int := ad (ad (ad (ad v.h (xr (xr (rl v.e 6) (rl v.e 11)) (rl v.e 25))) (ch v.e v.f v.g)) k) w
def two (v : V8) : Int := ad (xr (xr (rl v.a 2) (rl v.a 13)) (rl v.a 22)) (mj v.a v.b v.c)
def rnd (k w : Int) (v : V8) : V8 := ⟨ad (one k w v) (two v), v.a, v.b, v.c, ad v.d (one k w v), v.e, v.f, v.g⟩
def rn (K W : List Int) (v : V8) : Nat → V8
  | 0 => v
  | t + 1 => rnd (K.getD t 0) (W.getD t 0) (rn K W v t)
def V8.plus (v h : V8) : V8 := ⟨ad v.a h.a, ad v.b h.b, ad v.c h.c, ad v.d h.d, ad v.e h.e, ad v.f h.f, ad v.g h.g, ad v.h h.h⟩
/-- eight words behind a block -/
def blk8 (h : V8) (xs : List Int) : V8 := (rn RK (wds xs) h 64).plus h
theorem iu_getD {xs : List Int} {i : Nat} (h : i < xs.length) : (iu xs)[i]? = some (.p (.v (.int .u32 (xs.getD i 0)))) :=
  iu_at (by rw [List.getD_eq_getElem?_getD, List.getElem?_eq_getElem h]; rfl)
/-- the first k words have been added -/
def mx8 (v h : V8) (k : Nat) : List Int := (v.plus h).l.take k ++ v.l.drop k
theorem mx8_step (v h : V8) : ∀ k, k < 8 → (iu (mx8 v h k))[k]? = some (.p (.v (.int .u32 (v.l.getD k 0)))) ∧ setR (iu (mx8 v h k)) k [.p (.v (.int .u32 (ad (v.l.getD k 0) (h.l.getD k 0))))] = iu (mx8 v h (k + 1)) := by
  intro k hk
  match k, hk with
  | 0, _ => exact ⟨rfl, rfl⟩
  | 1, _ => exact ⟨rfl, rfl⟩
  | 2, _ => exact ⟨rfl, rfl⟩
  | 3, _ => exact ⟨rfl, rfl⟩
  | 4, _ => exact ⟨rfl, rfl⟩
  | 5, _ => exact ⟨rfl, rfl⟩
  | 6, _ => exact ⟨rfl, rfl⟩
  | 7, _ => exact ⟨rfl, rfl⟩
theorem mx8_len (v h : V8) (k : Nat) : (iu (mx8 v h k)).length = 8 := by
  rw [iu_len, mx8, List.length_append, List.length_take, List.length_drop]
  show min k 8 + (8 - k) = 8
  omega

set_option maxHeartbeats 2000000 in
theorem block_s (v0 : V8) (xs : List Int) (hl : xs.length = 64) (hb : isB xs) : Fn Try.prog 56 [.agg (iu v0.l), .p (.sl 64 1 (bs xs))] (.agg (iu (blk8 v0 xs).l)) [] := by
  refine fn_intro Try.func56 rfl (Nat.le_of_ble_eq_true rfl) fun w0 A => ?_
  refine awp_seq ?_
  refine awp_text (by kernel_rfl) ?_
  (refine r_run (a_box (X := .agg _) 2 rfl) rfl rfl ⟨rfl, trivial⟩ ?_)
  (refine r_run (a_alloc 4 zr69 rfl) rfl rfl ⟨rfl, trivial⟩ ?_)
  refine arun_nil ?_
  refine awp_seq ?_
  have hw := words_s xs hl hb
  have hwl := wds_len xs
  have hwl2 : (iu (wds xs)).length = 64 := by rw [iu_len]; exact hwl
  unfold blk8
  generalize wds xs = W at hw hwl hwl2 ⊢
  refine awp_draw 4 (by kernel_rfl) ?_
  (refine r_callV (fun n => 14 + 1000 * n) (rounds_s) rfl rfl Try.func80 rfl rfl (by first | rfl | simp [AV.noSl, AV.noSlL, AObj.noSl, PV.isV, bs_noSl]) (by first | rfl | simp [AV.noSl, AV.noSlL, AObj.noSl, PV.isV, bs_noSl]) rfl rfl rfl (by first | exact trivial | exact ⟨rfl, trivial⟩ | exact ⟨rfl, rfl, trivial⟩) rfl rfl rfl ?_)
  (refine r_pure (a_move (r := .p _)) rfl rfl ?_)
  (refine r_callS (fun n => 16 + 1000 * n) (hw) rfl rfl Try.func81 rfl rfl (by first | rfl | simp [AV.okInL, AV.okIn, okInL_map]) (iu_ok _ _) rfl rfl (by first | exact trivial | exact ⟨rfl, trivial⟩ | exact ⟨rfl, rfl, trivial⟩) rfl (iuA_ren _ _) rfl ?_)
  (refine r_run (a_loadN Try.underlying69 rfl sz69 (by first | exact Nat.le_of_ble_eq_true rfl | omega | (simp only [AV.cells, List.length_map]; omega)) (by first | exact take_all (by first | assumption | exact Nat.eq_of_beq_eq_true rfl | (simp only [AV.cells, List.length_map]; first | assumption | omega)) | (simp only [List.take_succ_cons, List.take_zero, List.drop_succ_cons, List.drop_zero]; rfl) | rfl)) rfl rfl ⟨rfl, trivial⟩ ?_)
  (refine r_run (a_alloc 5 zr96 rfl) rfl rfl ⟨rfl, trivial⟩ ?_)
  (refine r_run (a_alloc 6 zr96 rfl) rfl rfl ⟨rfl, trivial⟩ ?_)
  (refine r_run (a_alloc 7 zr69 rfl) rfl rfl ⟨rfl, trivial⟩ ?_)
  (refine r_run (a_storeAll (Y := .agg _) sz96 rfl (by first | exact Nat.eq_of_beq_eq_true rfl | (simp only [AV.cells, List.length_map]; first | assumption | omega)) (Nat.eq_of_beq_eq_true rfl)) rfl rfl ⟨rfl, trivial⟩ ?_)
  (refine r_run (a_storeAll (Y := .agg _) sz96 rfl (by first | exact Nat.eq_of_beq_eq_true rfl | (simp only [AV.cells, List.length_map]; first | assumption | omega)) (Nat.eq_of_beq_eq_true rfl)) rfl rfl ⟨rfl, trivial⟩ ?_)
  (refine r_run (a_storeAll (Y := .agg _) sz69 rfl (by first | exact Nat.eq_of_beq_eq_true rfl | (simp only [AV.cells, List.length_map]; first | assumption | omega)) (Nat.eq_of_beq_eq_true rfl)) rfl rfl ⟨rfl, trivial⟩ ?_)
  refine arun_nil ⟨by kernel_rfl, ?_⟩
  refine awp_seq (awp_seq ?_)
  refine awp_text (by kernel_rfl) ?_
  (refine r_pure (a_move (r := .p _)) rfl rfl ?_)
  refine arun_nil ?_
  refine awp_block ?_
  refine awp_loopR (fun m st => ∃ k : Nat, m + k = 64 ∧ st = St.of [(2, .ref 2 0), (4, .ref 4 0), (5, .ref 5 0), (6, .ref 6 0), (7, .ref 7 0), (18, .p (.v (.int .i64 k)))] [(2, .box 69 (iu v0.l)), (4, .box 69 (iu (List.replicate 8 0))), (5, .box 96 (iu RK)), (6, .box 96 (iu W)), (7, .box 69 (iu (rn RK W v0 k).l))]) 64 ?_ ?_
  · refine ⟨_, re_of id _ _ ?_ ?_ rfl, 0, by omega, rfl⟩
    · (repeat (first | exact trivial | (refine ⟨⟨(by first | rfl | (simp; done) | (simp; omega)), rfl⟩, ?_⟩)))
    · exact ⟨⟨iu_live rfl, iu_ok _ _⟩, ⟨iu_live rfl, iu_ok _ _⟩, ⟨iu_live rfl, iu_ok _ _⟩, ⟨iu_live rfl, iu_ok _ _⟩, ⟨iu_live rfl, iu_ok _ _⟩, trivial⟩
  rintro m st ⟨k, hk, rfl⟩
  refine awp_seq ?_
  refine awp_text (by kernel_rfl) ?_
  (refine r_pure a_lss rfl rfl ?_)
  refine arun_nil ?_
  refine awp_seq ?_
  refine awp_cond _ rfl (fun h => ?_) (fun h => ?_)
  · have hlt : k < 64 := by simp at h; omega
    clear h
    have gk := iu_getD (xs := RK) (i := k) hlt
    have gw := iu_getD (xs := W) (i := k) (by omega)
    have hs : (rn RK W v0 (k + 1)).l = (rnd (RK.getD k 0) (W.getD k 0) (rn RK W v0 k)).l := rfl
    generalize rn RK W v0 k = v at hs ⊢
    generalize RK.getD k 0 = ck at gk hs
    generalize W.getD k 0 = wk at gw hs
    refine awp_skip (awp_seq (awp_block (awp_seq ?_)))
    refine awp_text (by kernel_rfl) ?_
    (refine r_pure (a_move (r := .p _)) rfl rfl ?_)
    (refine r_pure (a_assign (r := .p _)) rfl rfl ?_)
    refine arun_nil ?_
    refine awp_seq ?_
    refine awp_draw 4 (by kernel_rfl) ?_
    (refine r_pure (a_indexAddrA Try.underlying69 sz23 (by omega) (by omega) (by first | (simp only [Int.toNat_natCast, Nat.mul_one, Nat.zero_add]; rfl) | rfl)) rfl rfl ?_)
    (refine r_run (a_load1 Try.underlying23 rfl (by first | rfl | assumption)) rfl rfl ⟨rfl, trivial⟩ ?_)
    (refine r_pure (a_indexAddrA Try.underlying69 sz23 (by omega) (by omega) (by first | (simp only [Int.toNat_natCast, Nat.mul_one, Nat.zero_add]; rfl) | rfl)) rfl rfl ?_)
    (refine r_run (a_load1 Try.underlying23 rfl (by first | rfl | assumption)) rfl rfl ⟨rfl, trivial⟩ ?_)
    (refine r_pure (a_assign (r := .p _)) rfl rfl ?_)
    (refine r_pure (a_assign (r := .p _)) rfl rfl ?_)
    refine arun_nil ⟨by kernel_rfl, ?_⟩
    refine awp_seq ?_
    refine awp_draw 4 (by kernel_rfl) ?_
    (refine r_pure (a_indexAddrA Try.underlying69 sz23 (by omega) (by omega) (by first | (simp only [Int.toNat_natCast, Nat.mul_one, Nat.zero_add]; rfl) | rfl)) rfl rfl ?_)
    (refine r_run (a_load1 Try.underlying23 rfl (by first | rfl | assumption)) rfl rfl ⟨rfl, trivial⟩ ?_)
    (refine r_pure (a_move (r := .p _)) rfl rfl ?_)
    (refine r_callV (fun n => 28 + 1000 * n) (down_s _ _) rfl rfl Try.func82 rfl rfl (by first | rfl | simp [AV.noSl, AV.noSlL, AObj.noSl, PV.isV, bs_noSl]) (by first | rfl | simp [AV.noSl, AV.noSlL, AObj.noSl, PV.isV, bs_noSl]) rfl rfl rfl (by first | exact trivial | exact ⟨rfl, trivial⟩ | exact ⟨rfl, rfl, trivial⟩) rfl rfl rfl ?_)
    (refine r_pure (a_move (r := .p _)) rfl rfl ?_)
    (refine r_callV (fun n => 30 + 1000 * n) (down_s _ _) rfl rfl Try.func82 rfl rfl (by first | rfl | simp [AV.noSl, AV.noSlL, AObj.noSl, PV.isV, bs_noSl]) (by first | rfl | simp [AV.noSl, AV.noSlL, AObj.noSl, PV.isV, bs_noSl]) rfl rfl rfl (by first | exact trivial | exact ⟨rfl, trivial⟩ | exact ⟨rfl, rfl, trivial⟩) rfl rfl rfl ?_)
    (refine r_pure (a_bits (by simp) rfl) rfl rfl ?_)
    (refine r_pure (a_move (r := .p _)) rfl rfl ?_)
    (refine r_callV (fun n => 33 + 1000 * n) (down_s _ _) rfl rfl Try.func82 rfl rfl (by first | rfl | simp [AV.noSl, AV.noSlL, AObj.noSl, PV.isV, bs_noSl]) (by first | rfl | simp [AV.noSl, AV.noSlL, AObj.noSl, PV.isV, bs_noSl]) rfl rfl rfl (by first | exact trivial | exact ⟨rfl, trivial⟩ | exact ⟨rfl, rfl, trivial⟩) rfl rfl rfl ?_)
    (refine r_pure (a_bits (by simp) rfl) rfl rfl ?_)
    (refine r_pure (a_add (by first | exact IntWalk.u32_in _ (by omega) | rfl)) rfl rfl ?_)
    (refine r_pure (a_move (r := .p _)) rfl rfl ?_)
    (refine r_pure (a_indexAddrA Try.underlying69 sz23 (by omega) (by omega) (by first | (simp only [Int.toNat_natCast, Nat.mul_one, Nat.zero_add]; rfl) | rfl)) rfl rfl ?_)
    (refine r_run (a_load1 Try.underlying23 rfl (by first | rfl | assumption)) rfl rfl ⟨rfl, trivial⟩ ?_)
    (refine r_pure (a_bits (by simp) rfl) rfl rfl ?_)
    (refine r_pure (a_move (r := .p _)) rfl rfl ?_)
    (refine r_pure (a_inv rfl) rfl rfl ?_)
    (refine r_pure (a_indexAddrA Try.underlying69 sz23 (by omega) (by omega) (by first | (simp only [Int.toNat_natCast, Nat.mul_one, Nat.zero_add]; rfl) | rfl)) rfl rfl ?_)
    (refine r_run (a_load1 Try.underlying23 rfl (by first | rfl | assumption)) rfl rfl ⟨rfl, trivial⟩ ?_)
    (refine r_pure (a_bits (by simp) rfl) rfl rfl ?_)
    (refine r_pure (a_bits (by simp) rfl) rfl rfl ?_)
    (refine r_pure (a_add (by first | exact IntWalk.u32_in _ (by omega) | rfl)) rfl rfl ?_)
    (refine r_pure (a_move (r := .p _)) rfl rfl ?_)
    (refine r_pure (a_indexAddrA Try.underlying96 sz23 (by omega) (by omega) (show 0 + _ = k by omega)) rfl rfl ?_)
    (refine r_run (a_load1 Try.underlying23 rfl (by first | rfl | assumption)) rfl rfl ⟨rfl, trivial⟩ ?_)
    (refine r_pure (a_add (by first | exact IntWalk.u32_in _ (by omega) | rfl)) rfl rfl ?_)
    (refine r_pure (a_move (r := .p _)) rfl rfl ?_)
    (refine r_pure (a_indexAddrA Try.underlying96 sz23 (by omega) (by omega) (show 0 + _ = k by omega)) rfl rfl ?_)
    (refine r_run (a_load1 Try.underlying23 rfl (by first | rfl | assumption)) rfl rfl ⟨rfl, trivial⟩ ?_)
    (refine r_pure (a_add (show _ = one ck wk v from rfl)) rfl rfl ?_)
    (refine r_pure (a_assign (r := .p _)) rfl rfl ?_)
    refine arun_nil ⟨by kernel_rfl, ?_⟩
    refine awp_seq ?_
    refine awp_draw 4 (by kernel_rfl) ?_
    (refine r_pure (a_move (r := .p _)) rfl rfl ?_)
    (refine r_callV (fun n => 56 + 1000 * n) (down_s _ _) rfl rfl Try.func82 rfl rfl (by first | rfl | simp [AV.noSl, AV.noSlL, AObj.noSl, PV.isV, bs_noSl]) (by first | rfl | simp [AV.noSl, AV.noSlL, AObj.noSl, PV.isV, bs_noSl]) rfl rfl rfl (by first | exact trivial | exact ⟨rfl, trivial⟩ | exact ⟨rfl, rfl, trivial⟩) rfl rfl rfl ?_)
    (refine r_pure (a_move (r := .p _)) rfl rfl ?_)
    (refine r_callV (fun n => 58 + 1000 * n) (down_s _ _) rfl rfl Try.func82 rfl rfl (by first | rfl | simp [AV.noSl, AV.noSlL, AObj.noSl, PV.isV, bs_noSl]) (by first | rfl | simp [AV.noSl, AV.noSlL, AObj.noSl, PV.isV, bs_noSl]) rfl rfl rfl (by first | exact trivial | exact ⟨rfl, trivial⟩ | exact ⟨rfl, rfl, trivial⟩) rfl rfl rfl ?_)
    (refine r_pure (a_bits (by simp) rfl) rfl rfl ?_)
    (refine r_pure (a_move (r := .p _)) rfl rfl ?_)
    (refine r_callV (fun n => 61 + 1000 * n) (down_s _ _) rfl rfl Try.func82 rfl rfl (by first | rfl | simp [AV.noSl, AV.noSlL, AObj.noSl, PV.isV, bs_noSl]) (by first | rfl | simp [AV.noSl, AV.noSlL, AObj.noSl, PV.isV, bs_noSl]) rfl rfl rfl (by first | exact trivial | exact ⟨rfl, trivial⟩ | exact ⟨rfl, rfl, trivial⟩) rfl rfl rfl ?_)
    (refine r_pure (a_bits (by simp) rfl) rfl rfl ?_)
    (refine r_pure (a_move (r := .p _)) rfl rfl ?_)
    (refine r_pure (a_indexAddrA Try.underlying69 sz23 (by omega) (by omega) (by first | (simp only [Int.toNat_natCast, Nat.mul_one, Nat.zero_add]; rfl) | rfl)) rfl rfl ?_)
    (refine r_run (a_load1 Try.underlying23 rfl (by first | rfl | assumption)) rfl rfl ⟨rfl, trivial⟩ ?_)
    (refine r_pure (a_bits (by simp) rfl) rfl rfl ?_)
    (refine r_pure (a_move (r := .p _)) rfl rfl ?_)
    (refine r_pure (a_indexAddrA Try.underlying69 sz23 (by omega) (by omega) (by first | (simp only [Int.toNat_natCast, Nat.mul_one, Nat.zero_add]; rfl) | rfl)) rfl rfl ?_)
    (refine r_run (a_load1 Try.underlying23 rfl (by first | rfl | assumption)) rfl rfl ⟨rfl, trivial⟩ ?_)
    (refine r_pure (a_bits (by simp) rfl) rfl rfl ?_)
    (refine r_pure (a_bits (by simp) rfl) rfl rfl ?_)
    (refine r_pure (a_indexAddrA Try.underlying69 sz23 (by omega) (by omega) (by first | (simp only [Int.toNat_natCast, Nat.mul_one, Nat.zero_add]; rfl) | rfl)) rfl rfl ?_)
    (refine r_run (a_load1 Try.underlying23 rfl (by first | rfl | assumption)) rfl rfl ⟨rfl, trivial⟩ ?_)
    (refine r_pure (a_indexAddrA Try.underlying69 sz23 (by omega) (by omega) (by first | (simp only [Int.toNat_natCast, Nat.mul_one, Nat.zero_add]; rfl) | rfl)) rfl rfl ?_)
    (refine r_run (a_load1 Try.underlying23 rfl (by first | rfl | assumption)) rfl rfl ⟨rfl, trivial⟩ ?_)
    (refine r_pure (a_bits (by simp) rfl) rfl rfl ?_)
    (refine r_pure (a_bits (by simp) rfl) rfl rfl ?_)
    (refine r_pure (a_add (show _ = two v from rfl)) rfl rfl ?_)
    (refine r_pure (a_assign (r := .p _)) rfl rfl ?_)
    refine arun_nil ⟨by kernel_rfl, ?_⟩
    refine thn_n ?_
    refine awp_text (by kernel_rfl) ?_
    (refine r_pure (a_move (r := .p _)) rfl rfl ?_)
    (refine r_pure (a_move (r := .p _)) rfl rfl ?_)
    (refine r_pure (a_add (show _ = ad (one ck wk v) (two v) from rfl)) rfl rfl ?_)
    (refine r_pure (a_move (r := .p _)) rfl rfl ?_)
    (refine r_pure (a_indexAddrA Try.underlying69 sz23 (by omega) (by omega) (by first | (simp only [Int.toNat_natCast, Nat.mul_one, Nat.zero_add]; rfl) | rfl)) rfl rfl ?_)
    (refine r_run (a_load1 Try.underlying23 rfl (by first | rfl | assumption)) rfl rfl ⟨rfl, trivial⟩ ?_)
    (refine r_pure (a_indexAddrA Try.underlying69 sz23 (by omega) (by omega) (by first | (simp only [Int.toNat_natCast, Nat.mul_one, Nat.zero_add]; rfl) | rfl)) rfl rfl ?_)
    (refine r_run (a_load1 Try.underlying23 rfl (by first | rfl | assumption)) rfl rfl ⟨rfl, trivial⟩ ?_)
    (refine r_pure (a_indexAddrA Try.underlying69 sz23 (by omega) (by omega) (by first | (simp only [Int.toNat_natCast, Nat.mul_one, Nat.zero_add]; rfl) | rfl)) rfl rfl ?_)
    (refine r_run (a_load1 Try.underlying23 rfl (by first | rfl | assumption)) rfl rfl ⟨rfl, trivial⟩ ?_)
    (refine r_pure (a_move (r := .p _)) rfl rfl ?_)
    (refine r_pure (a_add (show _ = ad v.d (one ck wk v) from rfl)) rfl rfl ?_)
    (refine r_pure (a_move (r := .p _)) rfl rfl ?_)
    (refine r_pure (a_indexAddrA Try.underlying69 sz23 (by omega) (by omega) (by first | (simp only [Int.toNat_natCast, Nat.mul_one, Nat.zero_add]; rfl) | rfl)) rfl rfl ?_)
    (refine r_run (a_load1 Try.underlying23 rfl (by first | rfl | assumption)) rfl rfl ⟨rfl, trivial⟩ ?_)
    (refine r_pure (a_indexAddrA Try.underlying69 sz23 (by omega) (by omega) (by first | (simp only [Int.toNat_natCast, Nat.mul_one, Nat.zero_add]; rfl) | rfl)) rfl rfl ?_)
    (refine r_run (a_load1 Try.underlying23 rfl (by first | rfl | assumption)) rfl rfl ⟨rfl, trivial⟩ ?_)
    (refine r_pure (xs := (iu (rnd ck wk v).l)) (a_buildA (es := (iu (rnd ck wk v).l)) Try.underlying69 zr69 rfl sz23 (by kernel_rfl)) (by first | rfl | kernel_rfl) rfl ?_)
    (refine r_run (a_storeAll (Y := .agg _) sz69 rfl (by first | exact Nat.eq_of_beq_eq_true rfl | (simp only [AV.cells, List.length_map]; first | assumption | omega)) (Nat.eq_of_beq_eq_true rfl)) rfl rfl ⟨rfl, trivial⟩ ?_)
    refine arun_nil ?_
    refine inb_n (thn_n ?_)
    refine awp_text (by kernel_rfl) ?_
    (refine r_pure (a_add (by first | exact IntWalk.i64_in _ (by omega) | rfl)) rfl rfl ?_)
    (refine r_pure (a_move (r := .p _)) rfl rfl ?_)
    refine arun_nil ?_
    refine thn_n ?_
    refine ⟨m - 1, by omega, _, re_of id _ _ ?_ ?_ rfl, k + 1, by omega, rfl⟩
    · (repeat (first | exact trivial | (refine ⟨⟨(by first | rfl | (simp; done) | (simp; omega)), rfl⟩, ?_⟩)))
    · rw [hs]
      exact ⟨⟨iu_live rfl, iu_ok _ _⟩, ⟨iu_live rfl, iu_ok _ _⟩, ⟨iu_live rfl, iu_ok _ _⟩, ⟨iu_live rfl, iu_ok _ _⟩, ⟨iu_live rfl, iu_ok _ _⟩, trivial⟩
  have hge : k = 64 := by simp at h; omega
  clear h
  subst hge
  generalize rn RK W v0 64 = v
  refine awp_exit (awp_seq (awp_seq ?_))
  refine awp_text (by kernel_rfl) ?_
  (refine r_pure (a_move (r := .p _)) rfl rfl ?_)
  refine arun_nil ?_
  refine awp_block ?_
  refine awp_loopR (fun m st => ∃ k : Nat, m + k = 8 ∧ st = St.of [(2, .ref 2 0), (4, .ref 4 0), (7, .ref 7 0), (98, .p (.v (.int .i64 k)))] [(2, .box 69 (iu v0.l)), (4, .box 69 (iu (List.replicate 8 0))), (7, .box 69 (iu (mx8 v v0 k)))]) 8 ?_ ?_
  · refine ⟨_, re_of id _ _ ?_ ?_ rfl, 0, by omega, rfl⟩
    · (repeat (first | exact trivial | (refine ⟨⟨(by first | rfl | (simp; done) | (simp; omega)), rfl⟩, ?_⟩)))
    · exact ⟨⟨iu_live rfl, iu_ok _ _⟩, ⟨iu_live rfl, iu_ok _ _⟩, ⟨iu_live rfl, iu_ok _ _⟩, trivial⟩
  rintro m st ⟨k, hk, rfl⟩
  refine awp_seq ?_
  refine awp_text (by kernel_rfl) ?_
  (refine r_pure a_lss rfl rfl ?_)
  refine arun_nil ?_
  refine awp_seq ?_
  refine awp_cond _ rfl (fun h => ?_) (fun h => ?_)
  · have hlt : k < 8 := by simp at h; omega
    clear h
    obtain ⟨g1, g2⟩ := mx8_step v v0 k hlt
    have g3 := iu_getD (xs := v0.l) (i := k) hlt
    have g4 := mx8_len v v0 k
    refine awp_skip (awp_seq (awp_block (awp_seq ?_)))
    refine awp_text (by kernel_rfl) ?_
    (refine r_pure (a_move (r := .p _)) rfl rfl ?_)
    (refine r_pure (a_assign (r := .p _)) rfl rfl ?_)
    refine arun_nil ?_
    refine thn_n ?_
    refine awp_draw 4 (by kernel_rfl) ?_
    (refine r_pure (a_move (r := .p _)) rfl rfl ?_)
    (refine r_pure (a_indexAddrA Try.underlying69 sz23 (by omega) (by omega) (show 0 + _ = k by omega)) rfl rfl ?_)
    (refine r_run (a_load1 Try.underlying23 rfl (by first | rfl | assumption)) rfl rfl ⟨rfl, trivial⟩ ?_)
    (refine r_pure (a_move (r := .p _)) rfl rfl ?_)
    (refine r_pure (a_indexAddrA Try.underlying69 sz23 (by omega) (by omega) (show 0 + _ = k by omega)) rfl rfl ?_)
    (refine r_run (a_load1 Try.underlying23 rfl (by first | rfl | assumption)) rfl rfl ⟨rfl, trivial⟩ ?_)
    (refine r_pure (a_add (show _ = ad _ _ from rfl)) rfl rfl ?_)
    (refine r_pure (a_indexAddrA Try.underlying69 sz23 (by omega) (by omega) (show 0 + _ = k by omega)) rfl rfl ?_)
    (refine r_run (a_store (Y := .p _) sz23 rfl (by first | exact Nat.eq_of_beq_eq_true rfl | (simp only [AV.cells, List.length_map]; first | assumption | omega)) (by first | exact Nat.le_of_ble_eq_true rfl | omega | (simp only [AV.cells, List.length_map]; omega)) g2) rfl rfl ⟨rfl, trivial⟩ ?_)
    refine arun_nil ⟨by kernel_rfl, ?_⟩
    refine inb_n (thn_n ?_)
    refine awp_text (by kernel_rfl) ?_
    (refine r_pure (a_add (by first | exact IntWalk.i64_in _ (by omega) | rfl)) rfl rfl ?_)
    (refine r_pure (a_move (r := .p _)) rfl rfl ?_)
    refine arun_nil ?_
    refine thn_n ?_
    refine ⟨m - 1, by omega, _, re_of id _ _ ?_ ?_ rfl, k + 1, by omega, rfl⟩
    · (repeat (first | exact trivial | (refine ⟨⟨(by first | rfl | (simp; done) | (simp; omega)), rfl⟩, ?_⟩)))
    · exact ⟨⟨iu_live rfl, iu_ok _ _⟩, ⟨iu_live rfl, iu_ok _ _⟩, ⟨iu_live rfl, iu_ok _ _⟩, trivial⟩
  have hge : k = 8 := by simp at h; omega
  clear h
  subst hge
  have he : mx8 v v0 8 = (v.plus v0).l := rfl
  rw [he]
  refine awp_exit (awp_seq ?_)
  refine awp_text (by kernel_rfl) ?_
  (refine r_run (a_loadN Try.underlying69 rfl sz69 (by first | exact Nat.le_of_ble_eq_true rfl | omega | (simp only [AV.cells, List.length_map]; omega)) (by first | exact take_all (by first | assumption | exact Nat.eq_of_beq_eq_true rfl | (simp only [AV.cells, List.length_map]; first | assumption | omega)) | (simp only [List.take_succ_cons, List.take_zero, List.drop_succ_cons, List.drop_zero]; rfl) | rfl)) rfl rfl ⟨rfl, trivial⟩ ?_)
  (refine r_run (a_storeAll (Y := .agg _) sz69 rfl (by first | exact Nat.eq_of_beq_eq_true rfl | (simp only [AV.cells, List.length_map]; first | assumption | omega)) (Nat.eq_of_beq_eq_true rfl)) rfl rfl ⟨rfl, trivial⟩ ?_)
  refine arun_nil ?_
  refine awp_ret ?_
  refine ⟨(by first | exact .inl rfl | exact .inr rfl), _, (fun o => o), (.cellN _ _ _ _ _ _ _ _ _ rfl rfl Try.underlying69 rfl sz69 (by first | assumption | kernel_rfl) .nil), ?_, rfl, ?_, rfl⟩
  · exact iu_view _ _ _ _
  · exact trivial
end Go.Proofs.Ytgbgpidimipfjaa
