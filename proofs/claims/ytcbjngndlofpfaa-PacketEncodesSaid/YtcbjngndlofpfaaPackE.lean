/- The reference's packet bytes. -/
import Derived.Test.YtcbjngndlofpfaaPackD
namespace Go.Proofs.Ytcbjngndlofpfaa
open Go.RowKit Go.Sort
set_option linter.unusedVariables false
attribute [local go_sem] readUpon

theorem str_app (xs ys : List Int) : strOfNums xs ++ strOfNums ys = strOfNums (xs ++ ys) := by
  apply ByteArray.ext
  simp [strOfNums, ByteArray.data_append]
theorem str_size (xs : List Int) : (strOfNums xs).size = xs.length := by simp [strOfNums, ByteArray.size]
theorem strI_str (xs : List Int) (h : isB xs) : strI (strOfNums xs) = xs := by
  simp only [strI, strOfNums, List.map_map]
  conv => rhs; rw [← List.map_id xs]
  refine List.map_congr_left fun x hx => ?_
  have := h x hx
  simp
  omega

theorem big_i (X : Int) (x m : Nat) (hX : X = x) (hx : x < 9223372036854775808) (hm : m ≤ 1000) (w : World) : Calls Try.prog 59 #[.int .i64 X, .int .i64 (m : Int)] w (RetS w (bigI x m)) := by
  subst hX; exact big_c x m hx hm w
theorem bigI4 (a : Nat) (h : a < 4294967296) : bigI a 4 = four4 a := by
  simp [bigI, four4, List.range_succ]
  omega
theorem bigI2 (a : Nat) (h : a < 65536) : bigI a 2 = [((a / 256 : Nat) : Int), ((a % 256 : Nat) : Int)] := by
  simp [bigI, List.range_succ]
  omega
def altSum (xs : List Int) (k : Nat) : Nat := ((List.range k).map fun j => if j % 2 = 0 then 256 * bN xs j else bN xs j).sum
theorem altSum_succ (xs : List Int) (k : Nat) : altSum xs (k + 1) = altSum xs k + (if k % 2 = 0 then 256 * bN xs k else bN xs k) := by simp [altSum, List.range_succ]
theorem altSum_pair (xs : List Int) (k : Nat) : altSum xs (2 * k) = pairSum xs k := by
  induction k with
  | zero => rfl
  | succ k ih =>
    rw [show 2 * (k + 1) = 2 * k + 1 + 1 by omega, altSum_succ, altSum_succ, ih, pairSum_succ, if_pos (by omega), if_neg (by omega)]
    omega
theorem altSum_le {xs : List Int} (h : isB xs) (k : Nat) : altSum xs k ≤ 65280 * k := by
  induction k with
  | zero => simp [altSum]
  | succ k ih => rw [altSum_succ]; have := bN_lt h k; split <;> omega
structure Bx (p : Prop) : Prop where
  out : p
def hdP (n : Nat) : List Int := [69, 0] ++ bigI (20 + n) 2
def hdS (n : Nat) : List Int := hdP n ++ [0, 0, 0, 0, 64, 253]
def hdQ (n : Nat) : List Int := hdS n ++ [0, 0]
def tlS (a b : Nat) : List Int := bigI a 4 ++ bigI b 4
def hdT (a b n : Nat) : List Int := hdQ n ++ tlS a b

set_option maxHeartbeats 2000000 in
theorem hdT_eq (a b n : Nat) (h1 : a < 4294967296) (h3 : b < 4294967296) (hn : n ≤ 200) : hdT a b n = headOf a b n := by
  simp [hdT, hdQ, hdS, hdP, tlS, headOf, hd12, bigI2 (20 + n) (by omega), bigI4 a h1, bigI4 b h3]
theorem hdS_B (n : Nat) : isB (hdS n) := by
  refine isB_app (isB_app ?_ (bigI_B _ _)) ?_
  all_goals
    intro x hx
    simp at hx
    omega
theorem pack_eq (a b n : Nat) (xs : List Int) (h1 : a < 4294967296) (h3 : b < 4294967296) (hn : n ≤ 200) :
    hdS n ++ bigI (65535 - sumOf (headOf a b n)) 2 ++ tlS a b ++ xs = packB a b n xs := by
  unfold packB
  generalize sumOf (headOf a b n) = S
  simp [hdS, hdP, tlS, headOf, hd12, four4, bigI2 (20 + n) (by omega), bigI2 (65535 - S) (by omega), bigI4 a h1, bigI4 b h3]
theorem bCap_le (w : World) (s : ByteArray) : s.size ≤ bCap w s := by
  unfold bCap
  exact grownCap_ge _ _ _ _
theorem hdT_B (a b n : Nat) : isB (hdT a b n) := by
  refine isB_app (isB_app (isB_app (isB_app ?_ (bigI_B _ _)) ?_) ?_) (isB_app (bigI_B _ _) (bigI_B _ _))
  all_goals
    intro x hx
    simp at hx
    omega

set_option maxHeartbeats 4000000 in
set_option maxRecDepth 20000 in
theorem refPack_c (a b : Nat) (h1 : a < 4294967296) (h3 : b < 4294967296) (p : Option Addr) (n c : Nat) (xs : List Int) (w : World) (h : Byt w p n xs) (hb : isB xs) (hn : n ≤ 200) :
    Calls Try.prog 34 #[.agg #[.int .u32 a, .int .u32 b, .slice p n c]] w (RetB w 0 (packB a b n xs)) := by
  have HX := Lib.hid h
  have HB := Lib.hid hb
  have hd0 : ¬ (200 : Int) < n := by omega
  have hz1 : (strOfNums (bigI (20 + n) 2)).size = 2 := by rw [str_size, bigI_len]
  have hz2 : (strOfNums (bigI a 4)).size = 4 := by rw [str_size, bigI_len]
  have hz3 : (strOfNums (bigI b 4)).size = 4 := by rw [str_size, bigI_len]
  have hi1 : (a : Int) < 4294967296 := by omega
  have hi3 : (b : Int) < 4294967296 := by omega
  have HN := Bx.mk hn
  have HA := Bx.mk h1
  have HC := Bx.mk h3
  clear h1 h3 hn
  have hwa : IntKind.i64.wrap (a : Int) = a := IntWalk.i64_in _ (by omega)
  have hwb : IntKind.i64.wrap (b : Int) = b := IntWalk.i64_in _ (by omega)
  have hs1 : (⟨#[69, 0]⟩ : ByteArray) ++ strOfNums (bigI (20 + n) 2) = strOfNums (hdP n) := str_app [69, 0] _
  have hs2 : strOfNums (hdP n) ++ (⟨#[0, 0, 0, 0, 64, 253]⟩ : ByteArray) = strOfNums (hdS n) := str_app _ [0, 0, 0, 0, 64, 253]
  have hs3 : strOfNums (bigI a 4) ++ strOfNums (bigI b 4) = strOfNums (tlS a b) := str_app _ _
  have hs4 : strOfNums (hdS n) ++ (⟨#[0, 0]⟩ : ByteArray) = strOfNums (hdQ n) := str_app _ [0, 0]
  have hs5 : strOfNums (hdQ n) ++ strOfNums (tlS a b) = strOfNums (hdT a b n) := str_app _ _
  have hz4 : (strOfNums (hdS n)).size = 10 := by rw [str_size]; simp [hdS, hdP, bigI_len]
  have hz5 : (strOfNums (tlS a b)).size = 8 := by rw [str_size]; simp [tlS, bigI_len]
  have hz6 : (strOfNums (hdQ n)).size = 12 := by rw [str_size]; simp [hdQ, hdS, hdP, bigI_len]
  have hz7 : (strOfNums (hdT a b n)).size = 20 := by rw [str_size]; simp [hdT, hdQ, hdS, hdP, tlS, bigI_len]
  have hz8 : (strOfNums (hdP n)).size = 4 := by rw [str_size]; simp [hdP, bigI_len]
  clear h hb
  go_enter Try.func34, Try.ntmps34
  go_wp2_with (first
    | (go_at_call 59; refine (big_i _ (20 + n) 2 (by omega) (by omega) (by omega) _).mono ?_; rintro e w1 ⟨q1, m1, d1, rfl, hr1, hd1, hb_w1⟩; have hcv1 := conv_back _ _ _ d1 _ hr1; obtain ⟨hc_w1, hf_w1⟩ := bcell hb_w1; have hq_w1 := hb_w1.size; (try simp at hq_w1); (try (have hl_w1_w_0 : w.heap.size < w1.heap.size := (by omega); have hm_w1_w_0 := Nat.le_of_lt hl_w1_w_0)); (try (have hl_w1_w_1 : w.heap.size + 1 < w1.heap.size := (by omega); have hm_w1_w_1 := Nat.le_of_lt hl_w1_w_1)); (try (have hl_w1_w_2 : w.heap.size + 2 < w1.heap.size := (by omega); have hm_w1_w_2 := Nat.le_of_lt hl_w1_w_2))))
  clear hcv1
  have hx0 : w1.cell? ⟨w.heap.size, 0, none⟩ = some (.int .u32 a) := by rw [hc_w1 _ _ (by simp)]; simp
  have hx1 : w1.cell? ⟨w.heap.size, 1, none⟩ = some (.int .u32 b) := by rw [hc_w1 _ _ (by simp)]; simp
  have hx2 : w1.cell? ⟨w.heap.size, 2, none⟩ = some (.slice p n c) := by rw [hc_w1 _ _ (by simp)]; simp
  have hbw1 : Below w.heap.size w w1 := by (repeat' (first | exact Below.refl _ _ | assumption | refine bstep ?_ (by assumption) | refine balloc ?_ _ | refine bdrew ?_ | refine bdrewN ?_ _ | refine bset ?_ ?_ _ | (show _ ≤ _; simp; omega) | (simp; done)))
  refine wp_plan [([0, 1, 2, 5, 6, 7], 3), ([4], 8)] [9, 10, 11] (w.heap.size + 1) (by kernel_rfl) (by kernel_rfl) ?_
  (iterate 6 (refine reads_step_below _ (by rfl) (fun L hL => ?_); rw [if_pos (by rfl)]; apply Exists.intro; refine ⟨fun x hx => ?_, ?_⟩; (go_simp; try first | exact rfl | exact ⟨rfl, rfl⟩); (try go_simp); refine hL _ ?_; clear hL L))
  (try refine reads_nil ?_); refine ser_step _ (by rfl) (fun L hL => ?_)
  rw [if_pos (by rfl)]
  go_simp
  go_at_call 59
  refine (big_i _ a 4 rfl (by omega) (by omega) _).mono ?_
  rintro e w2 ⟨q2, m2, d2, rfl, hr2, hd2, hb2⟩
  have hb2' := hb2.mono (show w.heap.size + 1 ≤ w1.drew.heap.size by simp; omega)
  have hsz2 := hb2.size
  simp at hsz2
  (try go_simp); refine hL _ _ (w2.heap.size) (by first | assumption | exact (by (repeat' (first | exact Below.refl _ _ | assumption | refine bstep ?_ (by assumption) | refine balloc ?_ _ | refine bdrew ?_ | refine bdrewN ?_ _ | refine bset ?_ ?_ _ | (show _ ≤ _; simp; omega) | (simp; done))))) (by first | omega | (simp; omega)) ?_; clear hL L
  (refine reads_step _ (by rfl) (fun L hL => ?_); rw [if_pos (by rfl)]; apply Exists.intro; refine ⟨fun x hx => ?_, ?_⟩; ((have hcv := conv_back x _ _ d2 _ (hr2.below hx)); go_simp; try first | exact rfl | exact ⟨rfl, rfl⟩); (try go_simp); refine hL _ ?_; clear hL L)
  (try refine reads_nil ?_); refine ser_step _ (by rfl) (fun L hL => ?_)
  rw [if_pos (by rfl)]
  go_simp
  go_at_call 59
  refine (big_i _ b 4 rfl (by omega) (by omega) _).mono ?_
  rintro e w3 ⟨q3, m3, d3, rfl, hr3, hd3, hb3⟩
  have hsz3 := hb3.size
  (try go_simp); refine hL _ _ (w3.heap.size) (by first | assumption | exact (by (repeat' (first | exact Below.refl _ _ | assumption | refine bstep ?_ (by assumption) | refine balloc ?_ _ | refine bdrew ?_ | refine bdrewN ?_ _ | refine bset ?_ ?_ _ | (show _ ≤ _; simp; omega) | (simp; done))))) (by first | omega | (simp; omega)) ?_; clear hL L
  (refine reads_step _ (by rfl) (fun L hL => ?_); rw [if_pos (by rfl)]; apply Exists.intro; refine ⟨fun x hx => ?_, ?_⟩; ((have hcv := conv_back x _ _ d3 _ (hr3.below hx)); go_simp; try first | exact rfl | exact ⟨rfl, rfl⟩); (try go_simp); refine hL _ ?_; clear hL L)
  (iterate 2 (refine reads_step_below _ (by rfl) (fun L hL => ?_); rw [if_pos (by rfl)]; apply Exists.intro; refine ⟨fun x hx => ?_, ?_⟩; (go_simp; try first | exact rfl | exact ⟨rfl, rfl⟩); (try go_simp); refine hL _ ?_; clear hL L))
  refine reads_nil ?_
  go_simp
  have hcvT := run_conv (strOfNums (hdT a b n))
  go_wp2_with fail
  have hbA : Below (w.heap.size + 1) w1 (bWorld w3 (strOfNums (hdT a b n))) := ((((Below.refl _ _).drew).trans hb2').trans (hb3.mono (by omega))).trans ((bWorld_below w3 _).mono (by omega))
  have HRT := Lib.hid (bWorld_byt w3 (strOfNums (hdT a b n)))
  have HBT := hdT_B a b n
  rw [hz7, strI_str _ HBT] at HRT
  generalize bWorld w3 (strOfNums (hdT a b n)) = W at *
  generalize bCap w3 (strOfNums (hdT a b n)) = cap at *
  clear hcvT hb2 hb3 hb2' hr1 hr2 hr3 hs1 hs2 hs3 hs4 hs5
  have HZ4 := Bx.mk hz4
  have HZ5 := Bx.mk hz5
  have HI1 := Bx.mk hi1
  have HI3 := Bx.mk hi3
  clear hz1 hz2 hz3 hz4 hz5 hz6 hz7 hz8 hi1 hi3 hwa hwb
  have HALT := Bx.mk (altSum_pair (hdT a b n) 10)
  obtain ⟨XS, hXS⟩ : ∃ XS, XS = hdT a b n := ⟨_, rfl⟩
  rw [← hXS] at HRT HBT HALT
  have HXS := Bx.mk hXS
  clear hXS
  have HBB := Bx.mk HBT
  clear HBT
  go_loopw [6, 38] (fun v i wr => ∃ (k : Nat), k ≤ 20 ∧ i = .int .i64 k ∧ v = .int .i64 (altSum XS k : Nat) ∧ Below W.heap.size W wr) (fun _ i _ => 20 - (intOf i).toNat)
  case atStart => exact ⟨0, by omega, rfl, rfl, Below.refl _ _⟩
  case round =>
    obtain ⟨k, hk, rfl, rfl, hbw⟩ := hrel
    have hps : altSum XS k ≤ 65280 * 20 := Nat.le_trans (altSum_le HBB.out k) (by omega)
    by_cases hlt : k < 20
    · obtain ⟨b', o', hp, hlt2, hcell⟩ := (HRT.out.below hbw).cells (by omega)
      simp only [Option.some.injEq, Addr.mk.injEq, and_true] at hp
      obtain ⟨rfl, rfl⟩ := hp
      have c0 := hcell k (by omega)
      rw [Nat.zero_add] at c0
      rw [bN_int HBB.out] at c0
      have q0 := bN_lt HBB.out k
      have HS := Bx.mk (altSum_succ XS k)
      clear hcell
      by_cases hev : k % 2 = 0
      · have hd : ((k : Int) % 2 == 0) = true := by simp; omega
        rw [if_pos hev] at HS
        clear hev
        generalize bN XS k = y at *
        generalize altSum XS k = S at *
        go_wp2_with fail
        go_roundw
        case rel => exact ⟨k + 1, by omega, by go_num, (by rw [HS.out]; exact int_eq (by omega)), hbw⟩
        case measure => simp [intOf]; omega
      · have hd : ((k : Int) % 2 == 0) = false := by simp; omega
        rw [if_neg hev] at HS
        clear hev
        generalize bN XS k = y at *
        generalize altSum XS k = S at *
        go_wp2_with fail
        go_roundw
        case rel => exact ⟨k + 1, by omega, by go_num, (by rw [HS.out]; exact int_eq (by omega)), hbw⟩
        case measure => simp [intOf]; omega
    · obtain rfl : k = 20 := by omega
      clear hlt hk
      have HF := Bx.mk (show fold16 (altSum XS 20) = sumOf XS by rw [show (20 : Nat) = 2 * 10 from rfl, HALT.out]; unfold sumOf; rw [HRT.out.len])
      generalize altSum XS 20 = S0 at *
      go_wp2_with fail
      go_loopw [6] (fun v wr' => ∃ m : Nat, m ≤ 65280 * 20 ∧ v = .int .i64 m ∧ Bx (fold16 m = sumOf XS) ∧ Below W.heap.size W wr') (fun v _ => (intOf v).toNat)
      case atStart => exact ⟨S0, hps, rfl, HF, hbw⟩
      case round =>
        obtain ⟨m, hm, rfl, HM, hbw2⟩ := hrel
        by_cases hgt : 65535 < m
        · have hst := Bx.mk (fold16_step (n := m) (by omega))
          iterate 13 go_step
          refine wp_cond_split rfl (fun h => ?_) (fun h => ?_)
          rotate_left
          · exfalso; simp at h; omega
          clear h
          go_wp2_with fail
          go_roundw
          case rel => exact ⟨m / 65536 + m % 65536, by omega, by go_num, ⟨hst.out.trans HM.out⟩, hbw2⟩
          case measure => simp [intOf]; omega
        · have hst := Bx.mk (fold16_end (n := m) (by omega))
          have HMS := Bx.mk (hst.out.symm.trans HM.out)
          clear hst
          iterate 13 go_step
          refine wp_cond_split rfl (fun h => ?_) (fun h => ?_)
          · exfalso; simp at h; omega
          clear h
          go_wp2_with fail
          have hbR : Below (w.heap.size + 1) w1 wr := hbA.trans (hbw2.mono (by have := hbA.size; omega))
          have hx2r := (hbR.cell (p := ⟨w.heap.size, 2, none⟩) (by simp)).trans hx2
          have hbwr : Below w.heap.size w wr := hbw1.trans (hbR.mono (by omega))
          obtain ⟨L1, hL1⟩ : ∃ L1, L1 = hdS n ++ bigI (65535 - m) 2 := ⟨_, rfl⟩
          obtain ⟨L2, hL2⟩ : ∃ L2, L2 = L1 ++ tlS a b := ⟨_, rfl⟩
          obtain ⟨L3, hL3⟩ : ∃ L3, L3 = L2 ++ xs := ⟨_, rfl⟩
          have g1 : strOfNums (hdS n) ++ strOfNums (bigI (65535 - m) 2) = strOfNums L1 := by rw [hL1]; exact str_app _ _
          have g2 : strOfNums L1 ++ strOfNums (tlS a b) = strOfNums L2 := by rw [hL2]; exact str_app _ _
          have g3 : strOfNums L2 ++ strOfNums xs = strOfNums L3 := by rw [hL3]; exact str_app _ _
          have z0 := HZ4.out
          have z1 : (strOfNums (bigI (65535 - m) 2)).size = 2 := by rw [str_size, bigI_len]
          have z2 : (strOfNums L1).size = 12 := by rw [hL1, str_size, List.length_append, bigI_len, ← str_size, z0]
          have z3 := HZ5.out
          have z4 : (strOfNums L2).size = 20 := by rw [hL2, str_size, List.length_append, ← str_size, ← str_size, z2, z3]
          have z5 : (strOfNums xs).size = n := by rw [str_size]; exact HX.out.len
          have z6 : (strOfNums L3).size = 20 + n := by rw [hL3, str_size, List.length_append, ← str_size, ← str_size, z4, z5]
          have HLL := Bx.mk (show L3 = hdS n ++ bigI (65535 - m) 2 ++ tlS a b ++ xs by rw [hL3, hL2, hL1])
          clear hL1 hL2 hL3
          have hwm : IntKind.i64.wrap (65535 - (m : Int)) = 65535 - (m : Int) := IntWalk.i64_in _ (by omega)
          have z9 : ¬ (9223372036854775807 < 20 + n) := by omega
          have hcvF := run_conv (strOfNums L3)
          refine wp_plan [([0, 1, 2, 6, 8, 9, 10], 3), ([4, 5, 7, 11], 12)] [13, 14] (w.heap.size + 1) (by kernel_rfl) (by kernel_rfl) ?_
          (iterate 6 (refine reads_step_below _ (by rfl) (fun L hL => ?_); rw [if_pos (by rfl)]; apply Exists.intro; refine ⟨fun x hx => ?_, ?_⟩; (go_simp; try first | exact rfl | exact ⟨rfl, rfl⟩); (try go_simp); refine hL _ ?_; clear hL L))
          (refine reads_step _ (by rfl) (fun L hL => ?_); rw [if_pos (by rfl)]; apply Exists.intro; refine ⟨fun x hx => ?_, ?_⟩; ((have hcv := conv_back x _ _ c _ (HX.out.below (hbwr.drew.trans (hx.mono (Nat.le_succ _))))); go_simp; try first | exact rfl | exact ⟨rfl, rfl⟩); (try go_simp); refine hL _ ?_; clear hL L)
          (try refine reads_nil ?_); refine ser_step _ (by rfl) (fun L hL => ?_)
          rw [if_pos (by rfl)]
          go_simp
          go_at_call 59
          refine (big_i (65535 - (m : Int)) (65535 - m) 2 (by omega) (by omega) (by omega) _).mono ?_
          rintro e w4 ⟨q4, m4, d4, rfl, hr4, hd4, hb4⟩
          have hsw : w.heap.size + 1 ≤ wr.heap.size := by have := hbR.size; omega
          have hb4' : Below (w.heap.size + 1) wr.drew w4 := hb4.mono hsw
          have hsz4 : wr.heap.size ≤ w4.heap.size := hb4.size
          (try go_simp); refine hL _ _ (w4.heap.size) (by first | assumption | exact (by (repeat' (first | exact Below.refl _ _ | assumption | refine bstep ?_ (by assumption) | refine balloc ?_ _ | refine bdrew ?_ | refine bdrewN ?_ _ | refine bset ?_ ?_ _ | (show _ ≤ _; simp; omega) | (simp; done))))) (by first | omega | (simp; omega)) ?_; clear hL L
          (refine reads_step _ (by rfl) (fun L hL => ?_); rw [if_pos (by rfl)]; apply Exists.intro; refine ⟨fun x hx => ?_, ?_⟩; ((have hcv := conv_back x _ _ d4 _ (hr4.below hx)); go_simp; try first | exact rfl | exact ⟨rfl, rfl⟩); (try go_simp); refine hL _ ?_; clear hL L)
          (iterate 3 (refine reads_step_below _ (by rfl) (fun L hL => ?_); rw [if_pos (by rfl)]; apply Exists.intro; refine ⟨fun x hx => ?_, ?_⟩; (go_simp; try first | exact rfl | exact ⟨rfl, rfl⟩); (try go_simp); refine hL _ ?_; clear hL L))
          (try refine reads_nil ?_); refine ser_step _ (by rfl) (fun L hL => ?_)
          rw [if_pos (by rfl)]
          go_simp
          have hb5 := bWorld_below w4 (strOfNums L3)
          have hsz5 := hb5.size
          (try go_simp); refine hL _ _ (w4.heap.size) (by first | assumption | exact (by (repeat' (first | exact Below.refl _ _ | assumption | refine bstep ?_ (by assumption) | refine balloc ?_ _ | refine bdrew ?_ | refine bdrewN ?_ _ | refine bset ?_ ?_ _ | (show _ ≤ _; simp; omega) | (simp; done))))) (by first | omega | (simp; omega)) ?_; clear hL L
          (iterate 2 (refine reads_step_below _ (by rfl) (fun L hL => ?_); rw [if_pos (by rfl)]; apply Exists.intro; refine ⟨fun x hx => ?_, ?_⟩; (go_simp; try first | exact rfl | exact ⟨rfl, rfl⟩); (try go_simp); refine hL _ ?_; clear hL L))
          refine reads_nil ?_
          go_wp2_with fail
          go_ret2
          have hmT := HMS.out
          have hm16 : m < 65536 := by omega
          rw [HXS.out, hdT_eq a b n HA.out HC.out HN.out] at hmT
          have hLe : L3 = packB a b n xs := by rw [HLL.out, hmT]; exact pack_eq a b n xs HA.out HC.out HN.out
          have hLB : isB L3 := by rw [HLL.out]; exact isB_app (isB_app (isB_app (hdS_B n) (bigI_B _ _)) (isB_app (bigI_B _ _) (bigI_B _ _))) HB.out
          have hfin := bWorld_byt w4 (strOfNums L3)
          rw [z6, strI_str _ hLB] at hfin
          have hcap : 20 + n ≤ bCap w4 (strOfNums L3) := by
            have := bCap_le w4 (strOfNums L3)
            omega
          rw [← hLe]
          exact RetB.mk hfin hcap (((hbwr.drew).trans (hb4'.mono (Nat.le_succ _))).trans (hb5.mono (by omega)))

theorem refPack_long (a b : Int) (p : Option Addr) (n c : Nat) (w : World) (hn : 200 < n) :
    Calls Try.prog 34 #[.agg #[.int .u32 a, .int .u32 b, .slice p n c]] w (RetB w 1 []) := by
  have hd0 : (200 : Int) < n := by omega
  clear hn
  go_enter Try.func34, Try.ntmps34
  go_wp2_with fail
  go_ret2
  exact RetB.no w (by (repeat' (first | exact Below.refl _ _ | assumption | refine bstep ?_ (by assumption) | refine balloc ?_ _ | refine bdrew ?_ | refine bdrewN ?_ _ | refine bset ?_ ?_ _ | (show _ ≤ _; simp; omega) | (simp; done))))
end Go.Proofs.Ytcbjngndlofpfaa
