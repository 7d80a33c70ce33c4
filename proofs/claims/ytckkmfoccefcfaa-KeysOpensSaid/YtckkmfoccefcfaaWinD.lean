/- What Take of package window, and its reference, compute; the law WindowTakes walked. -/
import Derived.Test.YtckkmfoccefcfaaWinB
import Derived.Test.YtckkmfoccefcfaaWinC
import Derived.Test.YtckkmfoccefcfaaQTail
namespace Go.Proofs.Ytckkmfoccefcfaa
open Go.RowKit Go.Sort
set_option linter.unusedVariables false

/-- which bits are set behind Take -/
def cameB (s : Bool) (l b n : Int) (i : Nat) : Bool :=
  if s = false then decide (i = 0)
  else if n ≤ l then decide ((i : Int) = l - n) || b.toNat.testBit i
  else decide (i = 0) || (decide (n - l ≤ i) && b.toNat.testBit (i - (n - l).toNat))

def takeE (s : Bool) (l b n : Int) : Int := if winHE s l b n = 0 then (if winHB s l b n = true then 10 else 0) else winHE s l b n
def takeS (s : Bool) (l b n : Int) : Bool := decide (takeE s l b n = 0)
def takeL (s : Bool) (l b n : Int) : Int := if takeE s l b n = 0 then (if s = true ∧ n ≤ l then l else n) else 0
def takeB (s : Bool) (l b n : Int) : Int := if takeE s l b n = 0 then (bsum (cameB s l b n) 64 : Nat) else 0

theorem winHE_ok {s : Bool} {l b n : Int} (h : winHE s l b n = 0) : winFault s l b = 0 ∧ 0 ≤ n ∧ n ≤ 1099511627776 := by
  unfold winHE at h
  split at h
  · split at h
    · simp at h
    · exact ⟨by assumption, by omega, by omega⟩
  · contradiction

theorem or_shl (b : Int) (j : Nat) (hb0 : 0 ≤ b) (hb1 : b < 18446744073709551616) (hj : j < 64) :
    bits .or .u64 b (2 ^ j) = ((bsum (fun i => decide (i = j) || b.toNat.testBit i) 64 : Nat) : Int) := by
  obtain ⟨x, rfl⟩ := Int.eq_ofNat_of_zero_le hb0
  have hp : 2 ^ j ≤ 2 ^ 63 := Nat.pow_le_pow_right (by decide) (by omega)
  rw [pow_cast, u64_or_nat x (2 ^ j) (by omega) (by omega), or_bit x j (by omega) hj]
  simp

theorem shl_or_one (b : Int) (d : Nat) (hb0 : 0 ≤ b) (hb1 : b < 18446744073709551616) :
    bits .or .u64 (IntKind.u64.wrap (b * 2 ^ d)) 1 = ((bsum (fun i => decide (i = 0) || (decide (d ≤ i) && b.toNat.testBit (i - d))) 64 : Nat) : Int) := by
  obtain ⟨x, rfl⟩ := Int.eq_ofNat_of_zero_le hb0
  have e : IntKind.u64.wrap ((x : Int) * 2 ^ d) = ((x * 2 ^ d % 2 ^ 64 : Nat) : Int) := by rw [IntKind.wrap_u64, pow_cast]; simp
  have hlt : x * 2 ^ d % 2 ^ 64 < 2 ^ 64 := Nat.mod_lt _ (by decide)
  rw [e, show (1 : Int) = ((1 : Nat) : Int) from rfl, u64_or_nat _ 1 (by omega) (by omega), shl_bit]
  simp

set_option maxHeartbeats 2000000 in
theorem winTake_g (s : Bool) (l b n : Int) (hb0 : 0 ≤ b) (hb1 : b < 18446744073709551616) (hl0 : -9223372036854775808 ≤ l) (hl1 : l < 9223372036854775808) (hn0 : -9223372036854775808 ≤ n) (hn1 : n < 9223372036854775808) :
    Gives Try.prog 77 #[.agg #[.bool s, .int .i64 l, .int .u64 b], .int .i64 n] (.tuple #[.agg #[.bool (takeS s l b n), .int .i64 (takeL s l b n), .int .u64 (takeB s l b n)], .int .i64 (takeE s l b n)]) := by
  intro w
  by_cases hE : winHE s l b n = 0
  · have hd : (winHE s l b n != 0) = false := by simp [hE]
    by_cases hB : winHB s l b n = true
    · have HX := Lib.hid (show takeE s l b n = 10 ∧ takeS s l b n = false ∧ takeL s l b n = 0 ∧ takeB s l b n = 0 by
        have h : takeE s l b n = 10 := by unfold takeE; rw [if_pos hE, if_pos hB]
        refine ⟨h, ?_, ?_, ?_⟩ <;> simp [takeS, takeL, takeB, h])
      rw [HX.out.1, HX.out.2.1, HX.out.2.2.1, HX.out.2.2.2]
      clear hE
      go_enter Try.func77, Try.ntmps77
      go_wp2_with (first | (go_at_call 114; (with_reducible refine Gives.use (winHas_g s l b n hb0 hb1 hl0 hl1 hn0 hn1) ?_); intro w1 hb_w1; obtain ⟨hc_w1, hf_w1⟩ := bcell hb_w1; have hq_w1 := hb_w1.size; (try simp at hq_w1); (try (have hl_w1_w_0 : w.heap.size < w1.heap.size := (by omega); have hm_w1_w_0 := Nat.le_of_lt hl_w1_w_0)); (try (have hl_w1_w_1 : w.heap.size + 1 < w1.heap.size := (by omega); have hm_w1_w_1 := Nat.le_of_lt hl_w1_w_1)); (try (have hl_w1_w_2 : w.heap.size + 2 < w1.heap.size := (by omega); have hm_w1_w_2 := Nat.le_of_lt hl_w1_w_2))))
      exact bodyPost_ret (v := .tuple #[.agg #[.bool false, .int .i64 0, .int .u64 0], .int .i64 10]) (by simp [results, Try.results77, go_sem, *]) rfl ⟨rfl, by (repeat' (first | exact Below.refl _ _ | assumption | refine bstep ?_ (by assumption) | refine balloc ?_ _ | refine bdrew ?_ | refine bdrewN ?_ _ | refine bset ?_ ?_ _ | (show _ ≤ _; simp; omega) | (simp; done)))⟩
    · have hBf : winHB s l b n = false := by simpa using hB
      have hTE : takeE s l b n = 0 := by unfold takeE; rw [if_pos hE, if_neg hB]
      obtain ⟨hf, hna, hnb⟩ := winHE_ok hE
      clear hB
      cases s
      · have HX := Lib.hid (show takeS false l b n = true ∧ takeL false l b n = n ∧ takeB false l b n = 1 by
          refine ⟨by simp [takeS, hTE], by simp [takeL, hTE], ?_⟩
          unfold takeB; rw [if_pos hTE]
          have : cameB false l b n = fun i => decide (i = 0) := by funext i; simp [cameB]
          rw [this]; decide)
        rw [hTE, HX.out.1, HX.out.2.1, HX.out.2.2]
        clear hE hTE hf
        go_enter Try.func77, Try.ntmps77
        go_wp2_with (first | (go_at_call 114; (with_reducible refine Gives.use (winHas_g false l b n hb0 hb1 hl0 hl1 hn0 hn1) ?_); intro w1 hb_w1; obtain ⟨hc_w1, hf_w1⟩ := bcell hb_w1; have hq_w1 := hb_w1.size; (try simp at hq_w1); (try (have hl_w1_w_0 : w.heap.size < w1.heap.size := (by omega); have hm_w1_w_0 := Nat.le_of_lt hl_w1_w_0)); (try (have hl_w1_w_1 : w.heap.size + 1 < w1.heap.size := (by omega); have hm_w1_w_1 := Nat.le_of_lt hl_w1_w_1)); (try (have hl_w1_w_2 : w.heap.size + 2 < w1.heap.size := (by omega); have hm_w1_w_2 := Nat.le_of_lt hl_w1_w_2))))
        exact bodyPost_ret (v := .tuple #[.agg #[.bool true, .int .i64 n, .int .u64 1], .int .i64 0]) (by simp [results, Try.results77, go_sem, *]) rfl ⟨rfl, by (repeat' (first | exact Below.refl _ _ | assumption | refine bstep ?_ (by assumption) | refine balloc ?_ _ | refine bdrew ?_ | refine bdrewN ?_ _ | refine bset ?_ ?_ _ | (show _ ≤ _; simp; omega) | (simp; done)))⟩
      · obtain ⟨hla, hlb, _, _⟩ := winFault_true hf
        by_cases hle : n ≤ l
        · have hnear : l - n < 64 := by
            have hBf' := hBf
            unfold winHB at hBf'
            simp [hE, hle] at hBf'
            omega
          have HX := Lib.hid (show takeS true l b n = true ∧ takeL true l b n = l ∧ takeB true l b n = bits .or .u64 b (2 ^ (l - n).toNat) by
            refine ⟨by simp [takeS, hTE], by simp [takeL, hTE, hle], ?_⟩
            unfold takeB; rw [if_pos hTE, or_shl b _ hb0 hb1 (by omega)]
            have : cameB true l b n = fun i => decide (i = (l - n).toNat) || b.toNat.testBit i := by
              funext i; simp only [cameB, hle]; simp; congr 2; apply propext; omega
            rw [this])
          have hpow : IntKind.u64.wrap ((2 : Int) ^ (l - n).toNat) = 2 ^ (l - n).toNat := by
            have h63 := Nat.pow_le_pow_right (show 0 < 2 by decide) (show (l - n).toNat ≤ 63 by omega)
            rw [pow_cast]
            generalize 2 ^ (l - n).toNat = p at h63
            exact IntWalk.u64_in _ (by omega)
          have HP := Lib.hid hpow
          rw [hTE, HX.out.1, HX.out.2.1, HX.out.2.2]
          clear hE hTE hf hpow
          go_enter Try.func77, Try.ntmps77
          go_wp2_with (first | (go_at_call 114; (with_reducible refine Gives.use (winHas_g true l b n hb0 hb1 hl0 hl1 hn0 hn1) ?_); intro w1 hb_w1; obtain ⟨hc_w1, hf_w1⟩ := bcell hb_w1; have hq_w1 := hb_w1.size; (try simp at hq_w1); (try (have hl_w1_w_0 : w.heap.size < w1.heap.size := (by omega); have hm_w1_w_0 := Nat.le_of_lt hl_w1_w_0)); (try (have hl_w1_w_1 : w.heap.size + 1 < w1.heap.size := (by omega); have hm_w1_w_1 := Nat.le_of_lt hl_w1_w_1)); (try (have hl_w1_w_2 : w.heap.size + 2 < w1.heap.size := (by omega); have hm_w1_w_2 := Nat.le_of_lt hl_w1_w_2))))
          have hcq := grow_cell w1
          (refine wp_quietb_tail 9 (by kernel_rfl) (by kernel_rfl) ?_; simp only [List.take_succ_cons, List.take_zero, List.drop_succ_cons, List.drop_zero]; (repeat (first | go_big_quiet_step ((fail)) | quiet_step ((fail)))); refine wpQuiet_nil ?_)
          intro w2 hb_w2
          clear hcq
          have hz1 := hb_w1.size
          simp at hz1
          have HB0 := ((((Blk.new w 44 #[.bool true, .int .i64 l, .int .u64 b]).alloc (Obj.cells #[.bool false, .int .i64 0, .int .u64 0] 44)).below hb_w1 (by first | (simp; done) | omega | (simp; omega))).below hb_w2 (by omega))
          have HB1 : Blk w2 (w.heap.size + 1) 44 #[.bool false, .int .i64 0, .int .u64 0] := ((by have := Blk.new (w.alloc (Obj.cells #[.bool true, .int .i64 l, .int .u64 b] 44)) 44 #[.bool false, .int .i64 0, .int .u64 0]; simpa using this : Blk _ (w.heap.size + 1) _ _).below hb_w1 (by first | (simp; done) | omega | (simp; omega))).below hb_w2 (by omega)
          have c0 := HB0.cell 0
          have c1 := HB0.cell 1
          have c2 := HB0.cell 2
          have d0 := HB1.cell 0
          have d1 := HB1.cell 1
          have d2 := HB1.cell 2
          have f2 := HB0.frozen 2
          have g0 := HB1.frozen 0
          have g1 := HB1.frozen 1
          have g2 := HB1.frozen 2
          simp at c0 c1 c2 d0 d1 d2
          clear HB0 HB1
          go_wp2
          rw [HP.out]
          exact bodyPost_ret (v := .tuple #[.agg #[.bool true, .int .i64 l, .int .u64 (bits .or .u64 b (2 ^ (l - n).toNat))], .int .i64 0]) (by simp [results, Try.results77, go_sem, *]) rfl ⟨rfl, by (repeat' (first | exact Below.refl _ _ | assumption | refine bstep ?_ (by assumption) | refine balloc ?_ _ | refine bdrew ?_ | refine bdrewN ?_ _ | refine bset ?_ ?_ _ | (show _ ≤ _; simp; omega) | (simp; done)))⟩
        · have hgt : l < n := by omega
          have HX := Lib.hid (show takeS true l b n = true ∧ takeL true l b n = n ∧ takeB true l b n = bits .or .u64 (IntKind.u64.wrap (b * 2 ^ (min (n - l) 64).toNat)) 1 by
            refine ⟨by simp [takeS, hTE], by simp [takeL, hTE]; omega, ?_⟩
            unfold takeB; rw [if_pos hTE, shl_or_one b _ hb0 hb1]
            congr 1
            apply bsum_congr
            intro i hi
            simp only [cameB, hle]
            by_cases h64 : n - l ≤ 64
            · have e : min (n - l) 64 = n - l := by omega
              rw [e]
              simp
              (try (congr 3; apply propext; omega))
            · have e : (min (n - l) 64).toNat = 64 := by omega
              have h1 : ¬ (n - l ≤ (i : Int)) := by omega
              have h2 : ¬ (64 ≤ i) := by omega
              rw [e]
              simp [h1, h2])
          rw [hTE, HX.out.1, HX.out.2.1, HX.out.2.2]
          clear hE hTE hf hle
          by_cases h64 : n - l ≤ 64
          · have HM := Lib.hid (show min (n - l) 64 = n - l by omega)
            go_enter Try.func77, Try.ntmps77
            go_wp2_with (first | (go_at_call 114; (with_reducible refine Gives.use (winHas_g true l b n hb0 hb1 hl0 hl1 hn0 hn1) ?_); intro w1 hb_w1; obtain ⟨hc_w1, hf_w1⟩ := bcell hb_w1; have hq_w1 := hb_w1.size; (try simp at hq_w1); (try (have hl_w1_w_0 : w.heap.size < w1.heap.size := (by omega); have hm_w1_w_0 := Nat.le_of_lt hl_w1_w_0)); (try (have hl_w1_w_1 : w.heap.size + 1 < w1.heap.size := (by omega); have hm_w1_w_1 := Nat.le_of_lt hl_w1_w_1)); (try (have hl_w1_w_2 : w.heap.size + 2 < w1.heap.size := (by omega); have hm_w1_w_2 := Nat.le_of_lt hl_w1_w_2))))
            rw [HM.out]
            exact bodyPost_ret (v := .tuple #[.agg #[.bool true, .int .i64 n, .int .u64 (bits .or .u64 (IntKind.u64.wrap (b * 2 ^ (n - l).toNat)) 1)], .int .i64 0]) (by simp [results, Try.results77, go_sem, *]) rfl ⟨rfl, by (repeat' (first | exact Below.refl _ _ | assumption | refine bstep ?_ (by assumption) | refine balloc ?_ _ | refine bdrew ?_ | refine bdrewN ?_ _ | refine bset ?_ ?_ _ | (show _ ≤ _; simp; omega) | (simp; done)))⟩
          · have HM := Lib.hid (show min (n - l) 64 = 64 by omega)
            go_enter Try.func77, Try.ntmps77
            go_wp2_with (first | (go_at_call 114; (with_reducible refine Gives.use (winHas_g true l b n hb0 hb1 hl0 hl1 hn0 hn1) ?_); intro w1 hb_w1; obtain ⟨hc_w1, hf_w1⟩ := bcell hb_w1; have hq_w1 := hb_w1.size; (try simp at hq_w1); (try (have hl_w1_w_0 : w.heap.size < w1.heap.size := (by omega); have hm_w1_w_0 := Nat.le_of_lt hl_w1_w_0)); (try (have hl_w1_w_1 : w.heap.size + 1 < w1.heap.size := (by omega); have hm_w1_w_1 := Nat.le_of_lt hl_w1_w_1)); (try (have hl_w1_w_2 : w.heap.size + 2 < w1.heap.size := (by omega); have hm_w1_w_2 := Nat.le_of_lt hl_w1_w_2))))
            rw [HM.out]
            exact bodyPost_ret (v := .tuple #[.agg #[.bool true, .int .i64 n, .int .u64 (bits .or .u64 (IntKind.u64.wrap (b * 2 ^ (64 : Int).toNat)) 1)], .int .i64 0]) (by simp [results, Try.results77, go_sem, *]) rfl ⟨rfl, by (repeat' (first | exact Below.refl _ _ | assumption | refine bstep ?_ (by assumption) | refine balloc ?_ _ | refine bdrew ?_ | refine bdrewN ?_ _ | refine bset ?_ ?_ _ | (show _ ≤ _; simp; omega) | (simp; done)))⟩
  · have hd : (winHE s l b n != 0) = true := by simp [hE]
    have HX := Lib.hid (show takeE s l b n = winHE s l b n ∧ takeS s l b n = false ∧ takeL s l b n = 0 ∧ takeB s l b n = 0 by
      have h : takeE s l b n = winHE s l b n := by unfold takeE; rw [if_neg hE]
      refine ⟨h, ?_, ?_, ?_⟩ <;> simp [takeS, takeL, takeB, h, hE])
    rw [HX.out.1, HX.out.2.1, HX.out.2.2.1, HX.out.2.2.2]
    clear hE
    go_enter Try.func77, Try.ntmps77
    go_wp2_with (first | (go_at_call 114; (with_reducible refine Gives.use (winHas_g s l b n hb0 hb1 hl0 hl1 hn0 hn1) ?_); intro w1 hb_w1; obtain ⟨hc_w1, hf_w1⟩ := bcell hb_w1; have hq_w1 := hb_w1.size; (try simp at hq_w1); (try (have hl_w1_w_0 : w.heap.size < w1.heap.size := (by omega); have hm_w1_w_0 := Nat.le_of_lt hl_w1_w_0)); (try (have hl_w1_w_1 : w.heap.size + 1 < w1.heap.size := (by omega); have hm_w1_w_1 := Nat.le_of_lt hl_w1_w_1)); (try (have hl_w1_w_2 : w.heap.size + 2 < w1.heap.size := (by omega); have hm_w1_w_2 := Nat.le_of_lt hl_w1_w_2))))
    exact bodyPost_ret (v := .tuple #[.agg #[.bool false, .int .i64 0, .int .u64 0], .int .i64 (winHE s l b n)]) (by simp [results, Try.results77, go_sem, *]) rfl ⟨rfl, by (repeat' (first | exact Below.refl _ _ | assumption | refine bstep ?_ (by assumption) | refine balloc ?_ _ | refine bdrew ?_ | refine bdrewN ?_ _ | refine bset ?_ ?_ _ | (show _ ≤ _; simp; omega) | (simp; done)))⟩
end Go.Proofs.Ytckkmfoccefcfaa
