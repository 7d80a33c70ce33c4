/- sha.words, over data. -/
import Derived.Test.YtgbgpidimipfjaaSh3
namespace Go.Proofs.Ytgbgpidimipfjaa
open Go.RowKit Go.Sort
set_option linter.unusedVariables false
set_option linter.unusedSimpArgs false
set_option maxRecDepth 100000

def acc (l : List Int) : Int := l.foldl (fun a b => a * 256 + b) 0
theorem acc_push (l : List Int) (x : Int) : acc (l ++ [x]) = acc l * 256 + x := by simp [acc]
theorem acc_bd : ∀ (n : Nat) (l : List Int), l.length = n → isB l → 0 ≤ acc l ∧ acc l < 256 ^ n
  | 0, l, hl, _ => by
    obtain rfl := List.eq_nil_of_length_eq_zero hl
    simp [acc]
  | n + 1, l, hl, hb => by
    obtain ⟨l', x, rfl⟩ : ∃ l' x, l = l' ++ [x] := ⟨l.dropLast, l.getLast (by intro h; subst h; simp at hl), (List.dropLast_concat_getLast _).symm⟩
    obtain ⟨h1, h2⟩ := acc_bd n l' (by simpa using hl) fun y hy => hb y (by simp [hy])
    have h3 := hb x (by simp)
    rw [acc_push, Int.pow_succ]
    omega
/-- word j of the first i bytes -/
def wd (xs : List Int) (i j : Nat) : Int := acc (((xs.take i).drop (4 * j)).take 4)
def wp (xs : List Int) (i : Nat) : List Int := (List.range 16).map (wd xs i)
theorem wp_len (xs : List Int) (i : Nat) : (wp xs i).length = 16 := by simp [wp]
theorem wp_zero (xs : List Int) : wp xs 0 = List.replicate 16 0 := by
  simp [wp, wd, acc]; rfl
theorem wp_at {xs : List Int} {i : Nat} (hi : i < 64) : (wp xs i)[i / 4]? = some (wd xs i (i / 4)) := by
  have : i / 4 < 16 := by omega
  simp [wp, this]
theorem wd_next {xs : List Int} {i : Nat} {x : Int} (hx : xs[i]? = some x) : wd xs (i + 1) (i / 4) = wd xs i (i / 4) * 256 + x := by
  have hi : i < xs.length := (List.getElem?_eq_some_iff.1 hx).1
  have e : xs[i] = x := (List.getElem?_eq_some_iff.1 hx).2
  unfold wd
  rw [← acc_push, List.take_succ_eq_append_getElem hi, List.drop_append_of_le_length (by rw [List.length_take]; omega), e]
  have hl : ((xs.take i).drop (4 * (i / 4))).length ≤ 3 := by rw [List.length_drop, List.length_take]; omega
  generalize List.drop (4 * (i / 4)) (List.take i xs) = L at hl ⊢
  have a1 : (L ++ [x]).take 4 = L ++ [x] := List.take_of_length_le (by simp; omega)
  have a2 : L.take 4 = L := List.take_of_length_le (by omega)
  rw [a1, a2]
theorem wd_other {xs : List Int} {i j : Nat} (hj : j ≠ i / 4) : wd xs (i + 1) j = wd xs i j := by
  unfold wd
  congr 1
  refine List.ext_getElem? fun k => ?_
  simp only [List.getElem?_take, List.getElem?_drop]
  by_cases hk : k < 4
  · rw [if_pos hk, if_pos hk]
    by_cases h1 : 4 * j + k < i
    · rw [if_pos h1, if_pos (by omega)]
    · rw [if_neg h1, if_neg (by omega)]
  · rw [if_neg hk, if_neg hk]
theorem wp_step {xs : List Int} {i : Nat} {x : Int} (hi : i < 64) (hx : xs[i]? = some x) : (wp xs i).set (i / 4) (wd xs i (i / 4) * 256 + x) = wp xs (i + 1) := by
  apply List.ext_getElem (by simp [wp])
  intro j h1 h2
  have hj : j < 16 := by simpa [wp] using h2
  rw [List.getElem_set]
  split
  · rename_i e
    subst e
    simp [wp, wd_next hx]
  · rename_i e
    simp only [wp, List.getElem_map, List.getElem_range]
    exact (wd_other (Ne.symm e)).symm
theorem wd_bd {xs : List Int} {i : Nat} (hb : isB xs) : 0 ≤ wd xs i (i / 4) ∧ wd xs i (i / 4) < 16777216 := by
  have h := acc_bd _ (((xs.take i).drop (4 * (i / 4))).take 4) rfl fun y hy => hb y (List.mem_of_mem_take (List.mem_of_mem_drop (List.mem_of_mem_take hy)))
  refine ⟨h.1, Int.lt_of_lt_of_le h.2 ?_⟩
  have hl : (((xs.take i).drop (4 * (i / 4))).take 4).length ≤ 3 := by
    rw [List.length_take, List.length_drop, List.length_take]; omega
  have : (256 : Int) ^ (((xs.take i).drop (4 * (i / 4))).take 4).length ≤ 256 ^ 3 := by
    exact_mod_cast Nat.pow_le_pow_right (n := 256) (by omega) hl
  exact this
theorem or_byte {a x : Int} (ha : 0 ≤ a ∧ a < 16777216) (hx : 0 ≤ x ∧ x < 256) : bits .or .u32 (a * 256) x = a * 256 + x := by
  obtain ⟨n, rfl⟩ := Int.eq_ofNat_of_zero_le ha.1
  obtain ⟨m, rfl⟩ := Int.eq_ofNat_of_zero_le hx.1
  have e : bits .or .u32 ((n : Int) * 256) (m : Int) = IntKind.u32.wrap ((BitVec.ofInt 32 ((n : Int) * 256) ||| BitVec.ofInt 32 (m : Int)).toNat : Int) := rfl
  have e1 : (n : Int) * 256 = ((n * 256 : Nat) : Int) := by omega
  have h1 : (BitVec.ofInt 32 ((n : Int) * 256)).toNat = n * 256 := by
    rw [e1, BitVec.ofInt_natCast, BitVec.toNat_ofNat]; exact Nat.mod_eq_of_lt (by omega)
  have h2 : (BitVec.ofInt 32 (m : Int)).toNat = m := by
    rw [BitVec.ofInt_natCast, BitVec.toNat_ofNat]; exact Nat.mod_eq_of_lt (by omega)
  rw [e, BitVec.toNat_or, h1, h2]
  have h3 : n * 256 ||| m = n * 256 + m := by
    have := Nat.shiftLeft_add_eq_or_of_lt (b := m) (i := 8) (by omega) n
    rw [Nat.shiftLeft_eq] at this
    exact this.symm
  rw [h3, IntWalk.u32_in _ (by omega)]
  omega

def s0 (a : Int) : Int := xr (xr (rl a 7) (rl a 18)) (sr a 3)
def s1 (b : Int) : Int := xr (xr (rl b 17) (rl b 19)) (sr b 10)
/-- the next word of the list, at place t -/
def nx (l : List Int) (t : Nat) : Int := ad (ad (ad (l.getD (t - 16) 0) (s0 (l.getD (t - 15) 0))) (l.getD (t - 7) 0)) (s1 (l.getD (t - 2) 0))
def ext (l : List Int) : Nat → List Int
  | 0 => l
  | k + 1 => ext l k ++ [nx (ext l k) (16 + k)]
theorem ext_len {l : List Int} (h : l.length = 16) : ∀ k, (ext l k).length = 16 + k
  | 0 => h
  | k + 1 => by simp only [ext, List.length_append, ext_len h k]; rfl
/-- the words of a block -/
def wds (xs : List Int) : List Int := ext (wp xs 64) 48
theorem wds_len (xs : List Int) : (wds xs).length = 64 := ext_len (wp_len _ _) 48
def exz (W : List Int) (k : Nat) : List Int := ext W k ++ List.replicate (48 - k) 0
theorem exz_len {W : List Int} (h : W.length = 16) {k : Nat} (hk : k ≤ 48) : (exz W k).length = 64 := by
  rw [exz, List.length_append, ext_len h, List.length_replicate]; omega
theorem exz_at {W : List Int} (h : W.length = 16) {k j : Nat} (hj : j < 16 + k) : (iu (exz W k))[j]? = some (.p (.v (.int .u32 ((ext W k).getD j 0)))) := by
  have h1 : j < (ext W k).length := by rw [ext_len h]; exact hj
  refine iu_at ?_
  rw [exz, List.getElem?_append_left h1, List.getD_eq_getElem?_getD, List.getElem?_eq_getElem h1]; rfl
theorem exz_set {W : List Int} (h : W.length = 16) {k : Nat} (hk : k < 48) : setR (iu (exz W k)) (16 + k) [.p (.v (.int .u32 (nx (ext W k) (16 + k))))] = iu (exz W (k + 1)) := by
  rw [iu_set (by rw [exz_len h (by omega)]; omega), exz, List.set_append_right _ _ (by rw [ext_len h]; omega), ext_len h, Nat.sub_self]
  obtain ⟨m, hm⟩ : ∃ m, 48 - k = m + 1 := ⟨47 - k, by omega⟩
  rw [hm, List.replicate_succ, List.set_cons_zero, exz, ext, show 48 - (k + 1) = m by omega, List.append_assoc]; rfl
theorem iu_ok (K : List Nat) : ∀ xs : List Int, AV.okInL K (iu xs) = true
  | [] => rfl
  | x :: xs => by simp only [iu, List.map_cons, AV.okInL, AV.okIn, Bool.true_and]; exact iu_ok K xs
theorem iu_ren (ρ : Nat → Nat) : ∀ xs : List Int, AV.renL ρ (iu xs) = iu xs
  | [] => rfl
  | x :: xs => by
    have := iu_ren ρ xs
    simp only [iu, List.map_cons, AV.renL, AV.ren] at this ⊢
    rw [this]
theorem iu_viewL (K : Nat → Bool) (h : Nat → Slot) : ∀ xs : List Int, AV.viewL K h (iu xs) = iu xs
  | [] => rfl
  | x :: xs => by
    have := iu_viewL K h xs
    simp only [iu, List.map_cons, AV.viewL, AV.view] at this ⊢
    rw [this]
theorem iu_view (K : Nat → Bool) (h : Nat → Slot) (ρ : Nat → Nat) (xs : List Int) : (AV.agg (iu xs)).view K h = (AV.agg (iu xs)).ren ρ := by rw [AV.view, AV.ren, iu_viewL, iu_ren]
theorem iu_live {h : Slot} {ty : TypeId} {ρ : Nat → Nat} {xs : List Int} (e : h = .live (.box ty (iu xs))) : h = .live ((AObj.box ty (iu xs)).ren ρ) := by rw [e, AObj.ren, iu_ren]
set_option maxHeartbeats 2000000 in
theorem words_s (xs : List Int) (hl : xs.length = 64) (hb : isB xs) : Fn Try.prog 81 [.p (.sl 64 1 (bs xs))] (.agg (iu (wds xs))) [] := by
  refine fn_intro Try.func81 rfl (Nat.le_of_ble_eq_true rfl) fun w0 A => ?_
  refine awp_seq ?_
  refine awp_text (by kernel_rfl) ?_
  (refine r_run (a_alloc 2 zr96 rfl) rfl rfl ⟨rfl, trivial⟩ ?_)
  refine arun_nil ?_
  refine awp_seq ?_
  refine awp_text (by kernel_rfl) ?_
  (refine r_run (a_alloc 3 zr96 rfl) rfl rfl ⟨rfl, trivial⟩ ?_)
  refine arun_nil ?_
  refine awp_seq (awp_seq ?_)
  refine awp_text (by kernel_rfl) ?_
  (refine r_pure (a_move (r := .p _)) rfl rfl ?_)
  (refine r_pure (a_lenS Try.underlying22) rfl rfl ?_)
  (refine r_pure (a_move (r := .p _)) rfl rfl ?_)
  refine arun_nil ?_
  refine awp_block ?_
  refine awp_loopR (fun m st => ∃ k : Nat, m + k = 64 ∧ st = St.of [(2, .ref 2 0), (3, .ref 3 0), (9, .p (.sl 64 1 (bs xs))), (10, .p (.v (.int .i64 64))), (11, .p (.v (.int .i64 k)))] [(2, .box 96 (iu (List.replicate 64 0))), (3, .box 96 (iu (wp xs k ++ List.replicate 48 0)))]) 64 ?_ ?_
  · refine ⟨_, re_of id _ _ ?_ ?_ rfl, 0, by omega, rfl⟩
    · (repeat (first | exact trivial | (refine ⟨⟨(by first | rfl | (simp; done) | (simp; omega)), rfl⟩, ?_⟩)))
    · rw [wp_zero]
      exact ⟨⟨rfl, rfl⟩, ⟨rfl, rfl⟩, trivial⟩
  rintro m st ⟨k, hk, rfl⟩
  refine awp_seq ?_
  refine awp_text (by kernel_rfl) ?_
  (refine r_pure a_lss rfl rfl ?_)
  refine arun_nil ?_
  refine awp_seq ?_
  refine awp_cond _ rfl (fun h => ?_) (fun h => ?_)
  · have hlt : k < 64 := by simp at h; omega
    clear h
    obtain ⟨x, hx⟩ : ∃ x, xs[k]? = some x := ⟨xs[k]'(by omega), List.getElem?_eq_getElem (by omega)⟩
    have hxb := hb x (List.mem_of_getElem? hx)
    have g1 := bs_at hx
    have hwb := wd_bd (i := k) hb
    have hlen := wp_len xs k
    refine awp_skip (awp_seq (awp_block (awp_seq ?_)))
    refine awp_text (by kernel_rfl) ?_
    (refine r_pure (a_move (r := .p _)) rfl rfl ?_)
    (refine r_pure (a_indexAddrS Try.underlying22 sz5 (by omega) (by omega) rfl) rfl rfl ?_)
    (refine r_pure (a_load1p Try.underlying5 rfl (by first | rfl | assumption | ((try simp only [List.getElem?_drop, List.getElem?_take, Int.toNat_natCast, Nat.mul_one, Nat.add_zero, Nat.zero_add]); first | assumption | rfl))) rfl rfl ?_)
    (refine r_pure (a_assign (r := .p _)) rfl rfl ?_)
    (refine r_pure (a_assign (r := .p _)) rfl rfl ?_)
    refine arun_nil ?_
    refine thn_n ?_
    have g2 : (iu (wp xs k ++ List.replicate 48 0))[k / 4]? = some (.p (.v (.int .u32 (wd xs k (k / 4))))) := iu_at (by rw [List.getElem?_append_left (by rw [hlen]; omega)]; exact wp_at hlt)
    have g3 : IntKind.u32.wrap (wd xs k (k / 4) * 2 ^ min (8 : Int).toNat IntKind.u32.bits) = wd xs k (k / 4) * 256 := by
      rw [show (2 : Int) ^ min (8 : Int).toNat IntKind.u32.bits = 256 from rfl]
      exact IntWalk.u32_in _ (by omega)
    have g4 : setR (iu (wp xs k ++ List.replicate 48 0)) (k / 4) [.p (.v (.int .u32 (wd xs k (k / 4) * 256 + x)))] = iu (wp xs (k + 1) ++ List.replicate 48 0) := by
      rw [iu_set (by simp [hlen]; omega), List.set_append_left _ _ (by rw [hlen]; omega), wp_step hlt hx]
    have g5 : (iu (wp xs k ++ List.replicate 48 0)).length = 64 := by simp [hlen]
    refine awp_text (by kernel_rfl) ?_
    (refine r_pure (a_move (r := .p _)) rfl rfl ?_)
    (refine r_pure (a_quo (by omega) (by first | exact IntWalk.i64_quo _ _ (by omega) | rfl)) rfl rfl ?_)
    (refine r_pure (a_move (r := .p _)) rfl rfl ?_)
    (refine r_pure (a_quo (by omega) (by first | exact IntWalk.i64_quo _ _ (by omega) | rfl)) rfl rfl ?_)
    (refine r_pure (a_indexAddrA Try.underlying96 sz23 (by omega) (by omega) (show 0 + _ = k / 4 by omega)) rfl rfl ?_)
    (refine r_run (a_load1 Try.underlying23 rfl (by first | rfl | assumption)) rfl rfl ⟨rfl, trivial⟩ ?_)
    (refine r_pure (a_shl (by omega) g3) rfl rfl ?_)
    (refine r_pure (a_move (r := .p _)) rfl rfl ?_)
    (refine r_pure (a_conv Try.underlying5 Try.underlying23 (by first | exact IntWalk.u32_in _ (by omega) | rfl)) rfl rfl ?_)
    (refine r_pure (a_bits (by simp) (or_byte hwb hxb)) rfl rfl ?_)
    (refine r_pure (a_indexAddrA Try.underlying96 sz23 (by omega) (by omega) (show 0 + _ = k / 4 by omega)) rfl rfl ?_)
    (refine r_run (a_store (Y := .p _) sz23 rfl (by first | exact Nat.eq_of_beq_eq_true rfl | (simp only [AV.cells, List.length_map]; first | assumption | omega)) (by first | exact Nat.le_of_ble_eq_true rfl | omega | (simp only [AV.cells, List.length_map]; omega)) g4) rfl rfl ⟨rfl, trivial⟩ ?_)
    refine arun_nil ?_
    refine inb_n (thn_n ?_)
    refine awp_text (by kernel_rfl) ?_
    (refine r_pure (a_add (by first | exact IntWalk.i64_in _ (by omega) | rfl)) rfl rfl ?_)
    (refine r_pure (a_move (r := .p _)) rfl rfl ?_)
    refine arun_nil ?_
    refine thn_n ?_
    refine ⟨m - 1, by omega, _, re_of id _ _ ?_ ?_ rfl, k + 1, by omega, rfl⟩
    · (repeat (first | exact trivial | (refine ⟨⟨(by first | rfl | (simp; done) | (simp; omega)), rfl⟩, ?_⟩)))
    · exact ⟨⟨iu_live rfl, iu_ok _ _⟩, ⟨iu_live rfl, iu_ok _ _⟩, trivial⟩
  have hge : k = 64 := by simp at h; omega
  clear h
  subst hge
  refine awp_exit (awp_seq (awp_seq ?_))
  refine awp_text (by kernel_rfl) ?_
  (refine r_pure (a_assign (r := .p _)) rfl rfl ?_)
  refine arun_nil ?_
  refine awp_block ?_
  have hW := wp_len xs 64
  refine awp_loopR (fun m st => ∃ k : Nat, m + k = 48 ∧ st = St.of [(2, .ref 2 0), (3, .ref 3 0), (6, .p (.v (.int .i64 (16 + k))))] [(2, .box 96 (iu (List.replicate 64 0))), (3, .box 96 (iu (exz (wp xs 64) k)))]) 48 ?_ ?_
  · refine ⟨_, re_of id _ _ ?_ ?_ rfl, 0, by omega, rfl⟩
    · (repeat (first | exact trivial | (refine ⟨⟨(by first | rfl | (simp; done) | (simp; omega)), rfl⟩, ?_⟩)))
    · exact ⟨⟨iu_live rfl, iu_ok _ _⟩, ⟨iu_live rfl, iu_ok _ _⟩, trivial⟩
  rintro m st ⟨k, hk, rfl⟩
  refine awp_seq (awp_seq ?_)
  refine awp_text (by kernel_rfl) ?_
  (refine r_pure (a_move (r := .p _)) rfl rfl ?_)
  (refine r_pure a_lss rfl rfl ?_)
  refine arun_nil ?_
  refine thn_n ?_
  refine awp_cond _ rfl (fun h => ?_) (fun h => ?_)
  · have hlt : k < 48 := by simp at h; omega
    clear h
    have g15 := exz_at (k := k) hW (j := 16 + k - 15) (by omega)
    have g16 := exz_at (k := k) hW (j := 16 + k - 16) (by omega)
    have g7 := exz_at (k := k) hW (j := 16 + k - 7) (by omega)
    have g2 := exz_at (k := k) hW (j := 16 + k - 2) (by omega)
    have gs := exz_set (k := k) hW hlt
    have gl : (iu (exz (wp xs 64) k)).length = 64 := by rw [iu_len]; exact exz_len hW (by omega)
    refine awp_skip (awp_seq (awp_block (awp_seq ?_)))
    refine awp_draw 4 (by kernel_rfl) ?_
    (refine r_pure (a_move (r := .p _)) rfl rfl ?_)
    (refine r_pure (a_sub (by first | exact IntWalk.i64_in _ (by omega) | rfl)) rfl rfl ?_)
    (refine r_pure (a_indexAddrA Try.underlying96 sz23 (by omega) (by omega) (show 0 + _ = 16 + k - 15 by omega)) rfl rfl ?_)
    (refine r_run (a_load1 Try.underlying23 rfl (by first | rfl | assumption)) rfl rfl ⟨rfl, trivial⟩ ?_)
    (refine r_pure (a_move (r := .p _)) rfl rfl ?_)
    (refine r_pure (a_sub (by first | exact IntWalk.i64_in _ (by omega) | rfl)) rfl rfl ?_)
    (refine r_pure (a_indexAddrA Try.underlying96 sz23 (by omega) (by omega) (show 0 + _ = 16 + k - 2 by omega)) rfl rfl ?_)
    (refine r_run (a_load1 Try.underlying23 rfl (by first | rfl | assumption)) rfl rfl ⟨rfl, trivial⟩ ?_)
    (refine r_pure (a_assign (r := .p _)) rfl rfl ?_)
    (refine r_pure (a_assign (r := .p _)) rfl rfl ?_)
    refine arun_nil ⟨by kernel_rfl, ?_⟩
    refine thn_n ?_
    refine awp_draw 4 (by kernel_rfl) ?_
    (refine r_pure (a_move (r := .p _)) rfl rfl ?_)
    (refine r_pure (a_move (r := .p _)) rfl rfl ?_)
    (refine r_pure (a_sub (by first | exact IntWalk.i64_in _ (by omega) | rfl)) rfl rfl ?_)
    (refine r_pure (a_indexAddrA Try.underlying96 sz23 (by omega) (by omega) (show 0 + _ = 16 + k - 16 by omega)) rfl rfl ?_)
    (refine r_run (a_load1 Try.underlying23 rfl (by first | rfl | assumption)) rfl rfl ⟨rfl, trivial⟩ ?_)
    (refine r_pure (a_move (r := .p _)) rfl rfl ?_)
    (refine r_callV (fun n => 46 + 1000 * n) (down_s _ _) rfl rfl Try.func82 rfl rfl (by first | rfl | simp [AV.noSl, AV.noSlL, AObj.noSl, PV.isV, bs_noSl]) (by first | rfl | simp [AV.noSl, AV.noSlL, AObj.noSl, PV.isV, bs_noSl]) rfl rfl rfl (by first | exact trivial | exact ⟨rfl, trivial⟩ | exact ⟨rfl, rfl, trivial⟩) rfl rfl rfl ?_)
    (refine r_pure (a_move (r := .p _)) rfl rfl ?_)
    (refine r_callV (fun n => 48 + 1000 * n) (down_s _ _) rfl rfl Try.func82 rfl rfl (by first | rfl | simp [AV.noSl, AV.noSlL, AObj.noSl, PV.isV, bs_noSl]) (by first | rfl | simp [AV.noSl, AV.noSlL, AObj.noSl, PV.isV, bs_noSl]) rfl rfl rfl (by first | exact trivial | exact ⟨rfl, trivial⟩ | exact ⟨rfl, rfl, trivial⟩) rfl rfl rfl ?_)
    (refine r_pure (a_bits (by simp) rfl) rfl rfl ?_)
    (refine r_pure (a_move (r := .p _)) rfl rfl ?_)
    (refine r_pure (a_shr (by omega) rfl) rfl rfl ?_)
    (refine r_pure (a_bits (by simp) rfl) rfl rfl ?_)
    (refine r_pure (a_add (by first | exact IntWalk.u32_in _ (by omega) | rfl)) rfl rfl ?_)
    (refine r_pure (a_move (r := .p _)) rfl rfl ?_)
    (refine r_pure (a_sub (by first | exact IntWalk.i64_in _ (by omega) | rfl)) rfl rfl ?_)
    (refine r_pure (a_indexAddrA Try.underlying96 sz23 (by omega) (by omega) (show 0 + _ = 16 + k - 7 by omega)) rfl rfl ?_)
    (refine r_run (a_load1 Try.underlying23 rfl (by first | rfl | assumption)) rfl rfl ⟨rfl, trivial⟩ ?_)
    (refine r_pure (a_add (by first | exact IntWalk.u32_in _ (by omega) | rfl)) rfl rfl ?_)
    (refine r_pure (a_move (r := .p _)) rfl rfl ?_)
    (refine r_callV (fun n => 60 + 1000 * n) (down_s _ _) rfl rfl Try.func82 rfl rfl (by first | rfl | simp [AV.noSl, AV.noSlL, AObj.noSl, PV.isV, bs_noSl]) (by first | rfl | simp [AV.noSl, AV.noSlL, AObj.noSl, PV.isV, bs_noSl]) rfl rfl rfl (by first | exact trivial | exact ⟨rfl, trivial⟩ | exact ⟨rfl, rfl, trivial⟩) rfl rfl rfl ?_)
    (refine r_pure (a_move (r := .p _)) rfl rfl ?_)
    (refine r_callV (fun n => 62 + 1000 * n) (down_s _ _) rfl rfl Try.func82 rfl rfl (by first | rfl | simp [AV.noSl, AV.noSlL, AObj.noSl, PV.isV, bs_noSl]) (by first | rfl | simp [AV.noSl, AV.noSlL, AObj.noSl, PV.isV, bs_noSl]) rfl rfl rfl (by first | exact trivial | exact ⟨rfl, trivial⟩ | exact ⟨rfl, rfl, trivial⟩) rfl rfl rfl ?_)
    (refine r_pure (a_bits (by simp) rfl) rfl rfl ?_)
    (refine r_pure (a_move (r := .p _)) rfl rfl ?_)
    (refine r_pure (a_shr (by omega) rfl) rfl rfl ?_)
    (refine r_pure (a_bits (by simp) rfl) rfl rfl ?_)
    (refine r_pure (a_add (by first | exact IntWalk.u32_in _ (by omega) | rfl)) rfl rfl ?_)
    (refine r_pure (a_indexAddrA Try.underlying96 sz23 (by omega) (by omega) (show 0 + _ = 16 + k by omega)) rfl rfl ?_)
    (refine r_run (a_store (Y := .p _) sz23 rfl (by first | exact Nat.eq_of_beq_eq_true rfl | (simp only [AV.cells, List.length_map]; first | assumption | omega)) (by first | exact Nat.le_of_ble_eq_true rfl | omega | (simp only [AV.cells, List.length_map]; omega)) gs) rfl rfl ⟨rfl, trivial⟩ ?_)
    refine arun_nil ⟨by kernel_rfl, ?_⟩
    refine inb_n (thn_n ?_)
    refine awp_text (by kernel_rfl) ?_
    (refine r_pure (a_move (r := .p _)) rfl rfl ?_)
    (refine r_pure (a_add (by first | exact IntWalk.i64_in _ (by omega) | rfl)) rfl rfl ?_)
    (refine r_pure (a_assign (r := .p _)) rfl rfl ?_)
    refine arun_nil ?_
    refine thn_n ?_
    refine ⟨m - 1, by omega, _, re_of id _ _ ?_ ?_ rfl, k + 1, by omega, rfl⟩
    · refine ⟨⟨rfl, rfl⟩, ⟨rfl, rfl⟩, ⟨?_, rfl⟩, trivial⟩
      show AV.p (.v (.int .i64 (16 + (k : Int) + 1))) = AV.p (.v (.int .i64 (16 + ((k + 1 : Nat) : Int))))
      congr 3 <;> omega
    · exact ⟨⟨iu_live rfl, iu_ok _ _⟩, ⟨iu_live rfl, iu_ok _ _⟩, trivial⟩
  have hge : k = 48 := by simp at h; omega
  clear h
  subst hge
  have he : exz (wp xs 64) 48 = wds xs := by simp [exz, wds]
  rw [he]
  have gl := wds_len xs
  generalize wds xs = D at gl ⊢
  have gl2 : (iu D).length = 64 := by rw [iu_len]; exact gl
  refine awp_exit (awp_seq ?_)
  refine awp_text (by kernel_rfl) ?_
  (refine r_run (a_loadN Try.underlying96 rfl sz96 (by first | exact Nat.le_of_ble_eq_true rfl | omega | (simp only [AV.cells, List.length_map]; omega)) (by first | exact take_all (by first | assumption | exact Nat.eq_of_beq_eq_true rfl | (simp only [AV.cells, List.length_map]; first | assumption | omega)) | (simp only [List.take_succ_cons, List.take_zero, List.drop_succ_cons, List.drop_zero]; rfl) | rfl)) rfl rfl ⟨rfl, trivial⟩ ?_)
  (refine r_run (a_storeAll (Y := .agg _) sz96 rfl (by first | exact Nat.eq_of_beq_eq_true rfl | (simp only [AV.cells, List.length_map]; first | assumption | omega)) (Nat.eq_of_beq_eq_true rfl)) rfl rfl ⟨rfl, trivial⟩ ?_)
  refine arun_nil ?_
  refine awp_ret ?_
  refine ⟨(by first | exact .inl rfl | exact .inr rfl), _, (fun o => o), (.cellN _ _ _ _ _ _ _ _ _ rfl rfl Try.underlying96 rfl sz96 (by first | assumption | kernel_rfl) .nil), ?_, iu_ok _ _, ?_, rfl⟩
  · exact iu_view _ _ _ _
  · exact trivial
end Go.Proofs.Ytgbgpidimipfjaa
