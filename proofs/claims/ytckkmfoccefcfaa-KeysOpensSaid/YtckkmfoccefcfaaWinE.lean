/- What WindowTake of the reference computes; the law WindowTakes walked. -/
import Derived.Test.YtckkmfoccefcfaaWinD
namespace Go.Proofs.Ytckkmfoccefcfaa
open Go.RowKit Go.Sort
set_option linter.unusedVariables false

theorem tbit (b : Int) (j : Nat) (hb0 : 0 ≤ b) : b.toNat.testBit j = decide (b / 2 ^ j % 2 = 1) := by
  obtain ⟨x, rfl⟩ := Int.eq_ofNat_of_zero_le hb0
  rw [Int.toNat_natCast, Nat.testBit_eq_decide_div_mod_eq, pow_cast]
  congr 1
  apply propext
  constructor
  · intro h; exact_mod_cast h
  · intro h; exact_mod_cast h

theorem bsum_step (c : Nat → Bool) (k : Int) (hk : 0 ≤ k) : bsum c (k + 1).toNat = bsum c k.toNat + (if c k.toNat then 2 ^ k.toNat else 0) := by
  have e : (k + 1).toNat = k.toNat + 1 := by omega
  rw [e]
  rfl

theorem bsum_yes (c : Nat → Bool) (k : Int) (hk : 0 ≤ k) (h64 : k < 64) (hc : c k.toNat = true) : IntKind.u64.wrap (((bsum c k.toNat : Nat) : Int) + IntKind.u64.wrap (2 ^ k.toNat)) = ((bsum c (k + 1).toNat : Nat) : Int) := by
  have hl := bsum_lt c (k + 1).toNat
  have h2 := Nat.pow_le_pow_right (show 0 < 2 by decide) (show (k + 1).toNat ≤ 64 by omega)
  rw [bsum_step c k hk, if_pos hc] at hl ⊢
  rw [IntKind.wrap_u64, IntKind.wrap_u64, pow_cast]
  generalize bsum c k.toNat = x at hl
  generalize 2 ^ k.toNat = p at hl
  generalize 2 ^ (k + 1).toNat = q at hl h2
  omega

theorem bsum_no (c : Nat → Bool) (k : Int) (hk : 0 ≤ k) (hc : c k.toNat = false) : ((bsum c k.toNat : Nat) : Int) = ((bsum c (k + 1).toNat : Nat) : Int) := by
  rw [bsum_step c k hk, hc]
  simp

set_option maxHeartbeats 4000000 in
theorem refWinTake_g (s : Bool) (l b n : Int) (hb0 : 0 ≤ b) (hb1 : b < 18446744073709551616) (hl0 : -9223372036854775808 ≤ l) (hl1 : l < 9223372036854775808) (hn0 : -9223372036854775808 ≤ n) (hn1 : n < 9223372036854775808) :
    Gives Try.prog 79 #[.agg #[.bool s, .int .i64 l, .int .u64 b], .int .i64 n] (.tuple #[.agg #[.bool (takeS s l b n), .int .i64 (takeL s l b n), .int .u64 (takeB s l b n)], .int .i64 (takeE s l b n)]) := by
  intro w
  by_cases hE : winHE s l b n = 0
  · have hd : (winHE s l b n != 0) = false := by simp [hE]
    by_cases hB : winHB s l b n = true
    · have HX := Lib.hid (show takeE s l b n = 10 ∧ takeS s l b n = false ∧ takeL s l b n = 0 ∧ takeB s l b n = 0 by
        have h : takeE s l b n = 10 := by unfold takeE; rw [if_pos hE, if_pos hB]
        refine ⟨h, ?_, ?_, ?_⟩ <;> simp [takeS, takeL, takeB, h])
      rw [HX.out.1, HX.out.2.1, HX.out.2.2.1, HX.out.2.2.2]
      clear hE
      go_enter Try.func79, Try.ntmps79
      go_wp2_with (first | (go_at_call 115; (with_reducible refine Gives.use (refWinHas_g s l b n hb0 hb1 hl0 hl1 hn0 hn1) ?_); intro w1 hb_w1; obtain ⟨hc_w1, hf_w1⟩ := bcell hb_w1; have hq_w1 := hb_w1.size; (try simp at hq_w1); (try (have hl_w1_w_0 : w.heap.size < w1.heap.size := (by omega); have hm_w1_w_0 := Nat.le_of_lt hl_w1_w_0)); (try (have hl_w1_w_1 : w.heap.size + 1 < w1.heap.size := (by omega); have hm_w1_w_1 := Nat.le_of_lt hl_w1_w_1)); (try (have hl_w1_w_2 : w.heap.size + 2 < w1.heap.size := (by omega); have hm_w1_w_2 := Nat.le_of_lt hl_w1_w_2))))
      exact bodyPost_ret (v := .tuple #[.agg #[.bool false, .int .i64 0, .int .u64 0], .int .i64 10]) (by simp [results, Try.results79, go_sem, *]) rfl ⟨rfl, by (repeat' (first | exact Below.refl _ _ | assumption | refine bstep ?_ (by assumption) | refine balloc ?_ _ | refine bdrew ?_ | refine bdrewN ?_ _ | refine bset ?_ ?_ _ | (show _ ≤ _; simp; omega) | (simp; done)))⟩
    · have hBf : winHB s l b n = false := by simpa using hB
      have hTE : takeE s l b n = 0 := by unfold takeE; rw [if_pos hE, if_neg hB]
      obtain ⟨hf, hna, hnb⟩ := winHE_ok hE
      clear hB
      cases s
      · have HX := Lib.hid (show takeS false l b n = true ∧ takeL false l b n = n ∧ takeB false l b n = (bsum (cameB false l b n) (64 : Int).toNat : Nat) from ⟨by simp [takeS, hTE], by simp [takeL, hTE] <;> omega, by unfold takeB; rw [if_pos hTE]; rfl⟩)
        rw [hTE, HX.out.1, HX.out.2.1, HX.out.2.2]
        clear hE hTE hf
        go_enter Try.func79, Try.ntmps79
        go_wp2_with (first | (go_at_call 115; (with_reducible refine Gives.use (refWinHas_g false l b n hb0 hb1 hl0 hl1 hn0 hn1) ?_); intro w1 hb_w1; obtain ⟨hc_w1, hf_w1⟩ := bcell hb_w1; have hq_w1 := hb_w1.size; (try simp at hq_w1); (try (have hl_w1_w_0 : w.heap.size < w1.heap.size := (by omega); have hm_w1_w_0 := Nat.le_of_lt hl_w1_w_0)); (try (have hl_w1_w_1 : w.heap.size + 1 < w1.heap.size := (by omega); have hm_w1_w_1 := Nat.le_of_lt hl_w1_w_1)); (try (have hl_w1_w_2 : w.heap.size + 2 < w1.heap.size := (by omega); have hm_w1_w_2 := Nat.le_of_lt hl_w1_w_2))))
        have hsz1 := hb_w1.size
        simp at hsz1
        have HB0 := ((Blk.new w 44 #[.bool false, .int .i64 l, .int .u64 b]).alloc (Obj.cells #[.bool false, .int .i64 0, .int .u64 0] 44)).below hb_w1 (by first | (simp; done) | omega | (simp; omega))
        have HB1 : Blk w1 (w.heap.size + 1) 44 #[.bool false, .int .i64 0, .int .u64 0] := (by have := Blk.new (w.alloc (Obj.cells #[.bool false, .int .i64 l, .int .u64 b] 44)) 44 #[.bool false, .int .i64 0, .int .u64 0]; simpa using this : Blk _ (w.heap.size + 1) _ _).below hb_w1 (by first | (simp; done) | omega | (simp; omega))
        have HBW : Below w.heap.size w w1 := bstep (by (repeat' (first | exact Below.refl _ _ | assumption | refine bstep ?_ (by assumption) | refine balloc ?_ _ | refine bdrew ?_ | refine bdrewN ?_ _ | refine bset ?_ ?_ _ | (show _ ≤ _; simp; omega) | (simp; done)))) hb_w1
        clear hb_w1 hc_w1 hf_w1 hq_w1
        go_loopw [10] (fun i wr => ∃ k : Int, 0 ≤ k ∧ k ≤ 64 ∧ i = .int .i64 k ∧ Blk wr w.heap.size 44 #[.bool false, .int .i64 l, .int .u64 b] ∧ Blk wr (w.heap.size + 1) 44 #[.bool false, .int .i64 0, .int .u64 0] ∧
            Blk wr w1.heap.size 44 #[.bool true, .int .i64 n, .int .u64 (bsum (cameB false l b n) k.toNat : Nat)] ∧ Below w.heap.size w wr) (fun i _ => (64 - intOf i).toNat)
        case atStart =>
          refine ⟨0, by omega, by omega, rfl, HB0.alloc _, HB1.alloc _, Blk.new w1 _ _, balloc HBW _⟩
        case round =>
          obtain ⟨k, hk1, hk2, rfl, R0, R1, R9, RB⟩ := hrel
          clear HB0 HB1 HBW
          have p0 := R0.cell 0
          have p1 := R0.cell 1
          have p2 := R0.cell 2
          have q0 := R1.cell 0
          have q1 := R1.cell 1
          have q2 := R1.cell 2
          have fq0 := R1.frozen 0
          have fq1 := R1.frozen 1
          have fq2 := R1.frozen 2
          have r0 := R9.cell 0
          have r1 := R9.cell 1
          have r2 := R9.cell 2
          have fr2 := R9.frozen 2
          have s0 := R0.lt
          have s1 := R1.lt
          have s9 := R9.lt
          simp at p0 p1 p2 q0 q1 q2 r0 r1 r2
          by_cases hlt : k < 64
          · have keyNo : cameB false l b n k.toNat = false → (∃ k' : Int, 0 ≤ k' ∧ k' ≤ 64 ∧ Value.int .i64 (k + 1) = .int .i64 k' ∧ Blk wr w.heap.size 44 #[.bool false, .int .i64 l, .int .u64 b] ∧ Blk wr (w.heap.size + 1) 44 #[.bool false, .int .i64 0, .int .u64 0] ∧
                Blk wr w1.heap.size 44 #[.bool true, .int .i64 n, .int .u64 (bsum (cameB false l b n) k'.toNat : Nat)] ∧ Below w.heap.size w wr) := fun hc =>
              ⟨k + 1, by omega, by omega, rfl, R0, R1, by rw [← bsum_no (cameB false l b n) k hk1 hc]; exact R9, RB⟩
            have keyYes : cameB false l b n k.toNat = true → ∀ w2, Below wr.heap.size wr w2 → (∃ k' : Int, 0 ≤ k' ∧ k' ≤ 64 ∧ Value.int .i64 (k + 1) = .int .i64 k' ∧ Blk (w2.setCell ⟨w1.heap.size, 2, none⟩ (.int .u64 (IntKind.u64.wrap (((bsum (cameB false l b n) k.toNat : Nat) : Int) + IntKind.u64.wrap (2 ^ k.toNat))))) w.heap.size 44 #[.bool false, .int .i64 l, .int .u64 b] ∧
                Blk (w2.setCell ⟨w1.heap.size, 2, none⟩ (.int .u64 (IntKind.u64.wrap (((bsum (cameB false l b n) k.toNat : Nat) : Int) + IntKind.u64.wrap (2 ^ k.toNat))))) (w.heap.size + 1) 44 #[.bool false, .int .i64 0, .int .u64 0] ∧
                Blk (w2.setCell ⟨w1.heap.size, 2, none⟩ (.int .u64 (IntKind.u64.wrap (((bsum (cameB false l b n) k.toNat : Nat) : Int) + IntKind.u64.wrap (2 ^ k.toNat))))) w1.heap.size 44 #[.bool true, .int .i64 n, .int .u64 (bsum (cameB false l b n) k'.toNat : Nat)] ∧
                Below w.heap.size w (w2.setCell ⟨w1.heap.size, 2, none⟩ (.int .u64 (IntKind.u64.wrap (((bsum (cameB false l b n) k.toNat : Nat) : Int) + IntKind.u64.wrap (2 ^ k.toNat)))))) := fun hc w2 hb => by
              rw [bsum_yes (cameB false l b n) k hk1 hlt hc]
              exact ⟨k + 1, by omega, by omega, rfl, (R0.below hb s0).far (by show w.heap.size ≠ w1.heap.size; omega) _, (R1.below hb s1).far (by show w.heap.size + 1 ≠ w1.heap.size; omega) _, (R9.below hb s9).set_ 2 _, bset (bstep RB hb) (by show w.heap.size ≤ w1.heap.size; omega) _⟩
            have KN := Lib.hid keyNo
            have KY := Lib.hid keyYes
            clear keyNo keyYes
            by_cases hk : k = 0
            · have hc := Lib.hid (show cameB false l b n k.toNat = true by simp [cameB, hk])
              have hd2 : (n - k == n) = true := by simp [hk]
              have HK := Lib.hid hk
              clear hk
              go_wp2_with fail
              have hcq := grow_cell wr
              (refine wp_quietb_tail 6 (by kernel_rfl) (by kernel_rfl) ?_; simp only [List.take_succ_cons, List.take_zero, List.drop_succ_cons, List.drop_zero]; (repeat (first | go_big_quiet_step ((fail)) | quiet_step ((fail)))); refine wpQuiet_nil ?_)
              intro w2 hb_w2
              clear hcq
              (obtain ⟨hc_w2, hf_w2⟩ := bcell hb_w2; have hq_w2 := hb_w2.size; (try simp at hq_w2); (try (have hl_w2_w_0 : w.heap.size < w2.heap.size := (by omega); have hm_w2_w_0 := Nat.le_of_lt hl_w2_w_0)); (try (have hl_w2_w_1 : w.heap.size + 1 < w2.heap.size := (by omega); have hm_w2_w_1 := Nat.le_of_lt hl_w2_w_1)); (try (have hl_w2_w_2 : w.heap.size + 2 < w2.heap.size := (by omega); have hm_w2_w_2 := Nat.le_of_lt hl_w2_w_2)); (try (have hl_w2_w1_0 : w1.heap.size < w2.heap.size := (by omega); have hm_w2_w1_0 := Nat.le_of_lt hl_w2_w1_0)); (try (have hl_w2_w1_1 : w1.heap.size + 1 < w2.heap.size := (by omega); have hm_w2_w1_1 := Nat.le_of_lt hl_w2_w1_1)); (try (have hl_w2_w1_2 : w1.heap.size + 2 < w2.heap.size := (by omega); have hm_w2_w1_2 := Nat.le_of_lt hl_w2_w1_2)))
              go_wp2
              go_roundw
              case rel => exact KY.out hc.out _ hb_w2
              case measure => simp [intOf]; omega
            · have hc := Lib.hid (show cameB false l b n k.toNat = false by simp [cameB]; omega)
              have hd2 : (n - k == n) = false := by simp; omega
              go_wp2
              go_roundw
              case rel => exact KN.out hc.out
              case measure => simp [intOf]; omega
          · obtain rfl : k = 64 := by omega
            go_wp2
            exact bodyPost_ret (v := .tuple #[.agg #[.bool true, .int .i64 n, .int .u64 (bsum (cameB false l b n) (64 : Int).toNat : Nat)], .int .i64 0]) (by simp [results, Try.results79, go_sem, *]) rfl ⟨rfl, by (repeat' (first | exact Below.refl _ _ | assumption | refine bstep ?_ (by assumption) | refine balloc ?_ _ | refine bdrew ?_ | refine bdrewN ?_ _ | refine bset ?_ ?_ _ | (show _ ≤ _; simp; omega) | (simp; done)))⟩
  
      · obtain ⟨hla, hlb, _, _⟩ := winFault_true hf
        by_cases hle : n ≤ l
        · have hnear : l - n < 64 := by
            have hBf' := hBf
            unfold winHB at hBf'
            simp [hE, hle] at hBf'
            omega
          by_cases hnl : n < l
          · have HX := Lib.hid (show takeS true l b n = true ∧ takeL true l b n = l ∧ takeB true l b n = (bsum (cameB true l b n) (64 : Int).toNat : Nat) from ⟨by simp [takeS, hTE], by simp [takeL, hTE] <;> omega, by unfold takeB; rw [if_pos hTE]; rfl⟩)
            rw [hTE, HX.out.1, HX.out.2.1, HX.out.2.2]
            clear hE hTE hf
            go_enter Try.func79, Try.ntmps79
            go_wp2_with (first | (go_at_call 115; (with_reducible refine Gives.use (refWinHas_g true l b n hb0 hb1 hl0 hl1 hn0 hn1) ?_); intro w1 hb_w1; obtain ⟨hc_w1, hf_w1⟩ := bcell hb_w1; have hq_w1 := hb_w1.size; (try simp at hq_w1); (try (have hl_w1_w_0 : w.heap.size < w1.heap.size := (by omega); have hm_w1_w_0 := Nat.le_of_lt hl_w1_w_0)); (try (have hl_w1_w_1 : w.heap.size + 1 < w1.heap.size := (by omega); have hm_w1_w_1 := Nat.le_of_lt hl_w1_w_1)); (try (have hl_w1_w_2 : w.heap.size + 2 < w1.heap.size := (by omega); have hm_w1_w_2 := Nat.le_of_lt hl_w1_w_2))))
            have hsz1 := hb_w1.size
            simp at hsz1
            have HB0 := ((Blk.new w 44 #[.bool true, .int .i64 l, .int .u64 b]).alloc (Obj.cells #[.bool false, .int .i64 0, .int .u64 0] 44)).below hb_w1 (by first | (simp; done) | omega | (simp; omega))
            have HB1 : Blk w1 (w.heap.size + 1) 44 #[.bool false, .int .i64 0, .int .u64 0] := (by have := Blk.new (w.alloc (Obj.cells #[.bool true, .int .i64 l, .int .u64 b] 44)) 44 #[.bool false, .int .i64 0, .int .u64 0]; simpa using this : Blk _ (w.heap.size + 1) _ _).below hb_w1 (by first | (simp; done) | omega | (simp; omega))
            have HBW : Below w.heap.size w w1 := bstep (by (repeat' (first | exact Below.refl _ _ | assumption | refine bstep ?_ (by assumption) | refine balloc ?_ _ | refine bdrew ?_ | refine bdrewN ?_ _ | refine bset ?_ ?_ _ | (show _ ≤ _; simp; omega) | (simp; done)))) hb_w1
            clear hb_w1 hc_w1 hf_w1 hq_w1
            go_loopw [10] (fun i wr => ∃ k : Int, 0 ≤ k ∧ k ≤ 64 ∧ i = .int .i64 k ∧ Blk wr w.heap.size 44 #[.bool true, .int .i64 l, .int .u64 b] ∧ Blk wr (w.heap.size + 1) 44 #[.bool false, .int .i64 0, .int .u64 0] ∧
                Blk wr w1.heap.size 44 #[.bool true, .int .i64 l, .int .u64 (bsum (cameB true l b n) k.toNat : Nat)] ∧ Below w.heap.size w wr) (fun i _ => (64 - intOf i).toNat)
            case atStart =>
              refine ⟨0, by omega, by omega, rfl, HB0.alloc _, HB1.alloc _, Blk.new w1 _ _, balloc HBW _⟩
            case round =>
              obtain ⟨k, hk1, hk2, rfl, R0, R1, R9, RB⟩ := hrel
              clear HB0 HB1 HBW
              have p0 := R0.cell 0
              have p1 := R0.cell 1
              have p2 := R0.cell 2
              have q0 := R1.cell 0
              have q1 := R1.cell 1
              have q2 := R1.cell 2
              have fq0 := R1.frozen 0
              have fq1 := R1.frozen 1
              have fq2 := R1.frozen 2
              have r0 := R9.cell 0
              have r1 := R9.cell 1
              have r2 := R9.cell 2
              have fr2 := R9.frozen 2
              have s0 := R0.lt
              have s1 := R1.lt
              have s9 := R9.lt
              simp at p0 p1 p2 q0 q1 q2 r0 r1 r2
              by_cases hlt : k < 64
              · have keyNo : cameB true l b n k.toNat = false → (∃ k' : Int, 0 ≤ k' ∧ k' ≤ 64 ∧ Value.int .i64 (k + 1) = .int .i64 k' ∧ Blk wr w.heap.size 44 #[.bool true, .int .i64 l, .int .u64 b] ∧ Blk wr (w.heap.size + 1) 44 #[.bool false, .int .i64 0, .int .u64 0] ∧
                    Blk wr w1.heap.size 44 #[.bool true, .int .i64 l, .int .u64 (bsum (cameB true l b n) k'.toNat : Nat)] ∧ Below w.heap.size w wr) := fun hc =>
                  ⟨k + 1, by omega, by omega, rfl, R0, R1, by rw [← bsum_no (cameB true l b n) k hk1 hc]; exact R9, RB⟩
                have keyYes : cameB true l b n k.toNat = true → ∀ w2, Below wr.heap.size wr w2 → (∃ k' : Int, 0 ≤ k' ∧ k' ≤ 64 ∧ Value.int .i64 (k + 1) = .int .i64 k' ∧ Blk (w2.setCell ⟨w1.heap.size, 2, none⟩ (.int .u64 (IntKind.u64.wrap (((bsum (cameB true l b n) k.toNat : Nat) : Int) + IntKind.u64.wrap (2 ^ k.toNat))))) w.heap.size 44 #[.bool true, .int .i64 l, .int .u64 b] ∧
                    Blk (w2.setCell ⟨w1.heap.size, 2, none⟩ (.int .u64 (IntKind.u64.wrap (((bsum (cameB true l b n) k.toNat : Nat) : Int) + IntKind.u64.wrap (2 ^ k.toNat))))) (w.heap.size + 1) 44 #[.bool false, .int .i64 0, .int .u64 0] ∧
                    Blk (w2.setCell ⟨w1.heap.size, 2, none⟩ (.int .u64 (IntKind.u64.wrap (((bsum (cameB true l b n) k.toNat : Nat) : Int) + IntKind.u64.wrap (2 ^ k.toNat))))) w1.heap.size 44 #[.bool true, .int .i64 l, .int .u64 (bsum (cameB true l b n) k'.toNat : Nat)] ∧
                    Below w.heap.size w (w2.setCell ⟨w1.heap.size, 2, none⟩ (.int .u64 (IntKind.u64.wrap (((bsum (cameB true l b n) k.toNat : Nat) : Int) + IntKind.u64.wrap (2 ^ k.toNat)))))) := fun hc w2 hb => by
                  rw [bsum_yes (cameB true l b n) k hk1 hlt hc]
                  exact ⟨k + 1, by omega, by omega, rfl, (R0.below hb s0).far (by show w.heap.size ≠ w1.heap.size; omega) _, (R1.below hb s1).far (by show w.heap.size + 1 ≠ w1.heap.size; omega) _, (R9.below hb s9).set_ 2 _, bset (bstep RB hb) (by show w.heap.size ≤ w1.heap.size; omega) _⟩
                have KN := Lib.hid keyNo
                have KY := Lib.hid keyYes
                clear keyNo keyYes
                by_cases hk : k = l - n
                · have hc := Lib.hid (show cameB true l b n k.toNat = true by simp only [cameB, hle]; simp; left; omega)
                  have hd2 : (l - k == n) = true := by simp; omega
                  have HK := Lib.hid hk
                  clear hk
                  go_wp2_with fail
                  have hcq := grow_cell wr
                  (refine wp_quietb_tail 6 (by kernel_rfl) (by kernel_rfl) ?_; simp only [List.take_succ_cons, List.take_zero, List.drop_succ_cons, List.drop_zero]; (repeat (first | go_big_quiet_step ((fail)) | quiet_step ((fail)))); refine wpQuiet_nil ?_)
                  intro w2 hb_w2
                  clear hcq
                  (obtain ⟨hc_w2, hf_w2⟩ := bcell hb_w2; have hq_w2 := hb_w2.size; (try simp at hq_w2); (try (have hl_w2_w_0 : w.heap.size < w2.heap.size := (by omega); have hm_w2_w_0 := Nat.le_of_lt hl_w2_w_0)); (try (have hl_w2_w_1 : w.heap.size + 1 < w2.heap.size := (by omega); have hm_w2_w_1 := Nat.le_of_lt hl_w2_w_1)); (try (have hl_w2_w_2 : w.heap.size + 2 < w2.heap.size := (by omega); have hm_w2_w_2 := Nat.le_of_lt hl_w2_w_2)); (try (have hl_w2_w1_0 : w1.heap.size < w2.heap.size := (by omega); have hm_w2_w1_0 := Nat.le_of_lt hl_w2_w1_0)); (try (have hl_w2_w1_1 : w1.heap.size + 1 < w2.heap.size := (by omega); have hm_w2_w1_1 := Nat.le_of_lt hl_w2_w1_1)); (try (have hl_w2_w1_2 : w1.heap.size + 2 < w2.heap.size := (by omega); have hm_w2_w1_2 := Nat.le_of_lt hl_w2_w1_2)))
                  go_wp2
                  go_roundw
                  case rel => exact KY.out hc.out _ hb_w2
                  case measure => simp [intOf]; omega
                · have hd2 : (l - k == n) = false := by simp; omega
                  by_cases hbit : b / 2 ^ (l - (l - k)).toNat % 2 = 1
                  · have hdb : (bits .and .u64 (b / 2 ^ (l - (l - k)).toNat) 1 == 1) = true := by rw [show bits .and .u64 (b / 2 ^ (l - (l - k)).toNat) 1 = 1 from (odd64_shr b _ hb0 hb1).trans hbit]; rfl
                    have hc := Lib.hid (show cameB true l b n k.toNat = true by
                      have e : (l - (l - k)).toNat = k.toNat := by omega
                      rw [e] at hbit
                      simp only [cameB, hle]
                      rw [tbit b _ hb0]
                      simp [hbit] <;> omega)
                    clear hbit
                    go_wp2_with fail
                    have hcq := grow_cell wr
                    (refine wp_quietb_tail 6 (by kernel_rfl) (by kernel_rfl) ?_; simp only [List.take_succ_cons, List.take_zero, List.drop_succ_cons, List.drop_zero]; (repeat (first | go_big_quiet_step ((fail)) | quiet_step ((fail)))); refine wpQuiet_nil ?_)
                    intro w2 hb_w2
                    clear hcq
                    (obtain ⟨hc_w2, hf_w2⟩ := bcell hb_w2; have hq_w2 := hb_w2.size; (try simp at hq_w2); (try (have hl_w2_w_0 : w.heap.size < w2.heap.size := (by omega); have hm_w2_w_0 := Nat.le_of_lt hl_w2_w_0)); (try (have hl_w2_w_1 : w.heap.size + 1 < w2.heap.size := (by omega); have hm_w2_w_1 := Nat.le_of_lt hl_w2_w_1)); (try (have hl_w2_w_2 : w.heap.size + 2 < w2.heap.size := (by omega); have hm_w2_w_2 := Nat.le_of_lt hl_w2_w_2)); (try (have hl_w2_w1_0 : w1.heap.size < w2.heap.size := (by omega); have hm_w2_w1_0 := Nat.le_of_lt hl_w2_w1_0)); (try (have hl_w2_w1_1 : w1.heap.size + 1 < w2.heap.size := (by omega); have hm_w2_w1_1 := Nat.le_of_lt hl_w2_w1_1)); (try (have hl_w2_w1_2 : w1.heap.size + 2 < w2.heap.size := (by omega); have hm_w2_w1_2 := Nat.le_of_lt hl_w2_w1_2)))
                    go_wp2
                    go_roundw
                    case rel => exact KY.out hc.out _ hb_w2
                    case measure => simp [intOf]; omega
                  · have hdb : (bits .and .u64 (b / 2 ^ (l - (l - k)).toNat) 1 == 1) = false := by rw [show bits .and .u64 (b / 2 ^ (l - (l - k)).toNat) 1 = b / 2 ^ (l - (l - k)).toNat % 2 from odd64_shr b _ hb0 hb1]; simp [hbit]
                    have hc := Lib.hid (show cameB true l b n k.toNat = false by
                      have e : (l - (l - k)).toNat = k.toNat := by omega
                      rw [e] at hbit
                      simp only [cameB, hle]
                      rw [tbit b _ hb0]
                      simp [hbit] <;> omega)
                    clear hbit
                    go_wp2
                    go_roundw
                    case rel => exact KN.out hc.out
                    case measure => simp [intOf]; omega
              · obtain rfl : k = 64 := by omega
                go_wp2
                exact bodyPost_ret (v := .tuple #[.agg #[.bool true, .int .i64 l, .int .u64 (bsum (cameB true l b n) (64 : Int).toNat : Nat)], .int .i64 0]) (by simp [results, Try.results79, go_sem, *]) rfl ⟨rfl, by (repeat' (first | exact Below.refl _ _ | assumption | refine bstep ?_ (by assumption) | refine balloc ?_ _ | refine bdrew ?_ | refine bdrewN ?_ _ | refine bset ?_ ?_ _ | (show _ ≤ _; simp; omega) | (simp; done)))⟩
      
          · exfalso
            obtain rfl : n = l := by omega
            have hodd := (winFault_true hf).2.2.1
            have hBf' := hBf
            unfold winHB at hBf'
            simp [hE] at hBf'
            omega
        · have hgt : l < n := by omega
          have HX := Lib.hid (show takeS true l b n = true ∧ takeL true l b n = n ∧ takeB true l b n = (bsum (cameB true l b n) (64 : Int).toNat : Nat) from ⟨by simp [takeS, hTE], by simp [takeL, hTE] <;> omega, by unfold takeB; rw [if_pos hTE]; rfl⟩)
          rw [hTE, HX.out.1, HX.out.2.1, HX.out.2.2]
          clear hE hTE hf
          go_enter Try.func79, Try.ntmps79
          go_wp2_with (first | (go_at_call 115; (with_reducible refine Gives.use (refWinHas_g true l b n hb0 hb1 hl0 hl1 hn0 hn1) ?_); intro w1 hb_w1; obtain ⟨hc_w1, hf_w1⟩ := bcell hb_w1; have hq_w1 := hb_w1.size; (try simp at hq_w1); (try (have hl_w1_w_0 : w.heap.size < w1.heap.size := (by omega); have hm_w1_w_0 := Nat.le_of_lt hl_w1_w_0)); (try (have hl_w1_w_1 : w.heap.size + 1 < w1.heap.size := (by omega); have hm_w1_w_1 := Nat.le_of_lt hl_w1_w_1)); (try (have hl_w1_w_2 : w.heap.size + 2 < w1.heap.size := (by omega); have hm_w1_w_2 := Nat.le_of_lt hl_w1_w_2))))
          have hsz1 := hb_w1.size
          simp at hsz1
          have HB0 := ((Blk.new w 44 #[.bool true, .int .i64 l, .int .u64 b]).alloc (Obj.cells #[.bool false, .int .i64 0, .int .u64 0] 44)).below hb_w1 (by first | (simp; done) | omega | (simp; omega))
          have HB1 : Blk w1 (w.heap.size + 1) 44 #[.bool false, .int .i64 0, .int .u64 0] := (by have := Blk.new (w.alloc (Obj.cells #[.bool true, .int .i64 l, .int .u64 b] 44)) 44 #[.bool false, .int .i64 0, .int .u64 0]; simpa using this : Blk _ (w.heap.size + 1) _ _).below hb_w1 (by first | (simp; done) | omega | (simp; omega))
          have HBW : Below w.heap.size w w1 := bstep (by (repeat' (first | exact Below.refl _ _ | assumption | refine bstep ?_ (by assumption) | refine balloc ?_ _ | refine bdrew ?_ | refine bdrewN ?_ _ | refine bset ?_ ?_ _ | (show _ ≤ _; simp; omega) | (simp; done)))) hb_w1
          clear hb_w1 hc_w1 hf_w1 hq_w1
          go_loopw [10] (fun i wr => ∃ k : Int, 0 ≤ k ∧ k ≤ 64 ∧ i = .int .i64 k ∧ Blk wr w.heap.size 44 #[.bool true, .int .i64 l, .int .u64 b] ∧ Blk wr (w.heap.size + 1) 44 #[.bool false, .int .i64 0, .int .u64 0] ∧
              Blk wr w1.heap.size 44 #[.bool true, .int .i64 n, .int .u64 (bsum (cameB true l b n) k.toNat : Nat)] ∧ Below w.heap.size w wr) (fun i _ => (64 - intOf i).toNat)
          case atStart =>
            refine ⟨0, by omega, by omega, rfl, HB0.alloc _, HB1.alloc _, Blk.new w1 _ _, balloc HBW _⟩
          case round =>
            obtain ⟨k, hk1, hk2, rfl, R0, R1, R9, RB⟩ := hrel
            clear HB0 HB1 HBW
            have p0 := R0.cell 0
            have p1 := R0.cell 1
            have p2 := R0.cell 2
            have q0 := R1.cell 0
            have q1 := R1.cell 1
            have q2 := R1.cell 2
            have fq0 := R1.frozen 0
            have fq1 := R1.frozen 1
            have fq2 := R1.frozen 2
            have r0 := R9.cell 0
            have r1 := R9.cell 1
            have r2 := R9.cell 2
            have fr2 := R9.frozen 2
            have s0 := R0.lt
            have s1 := R1.lt
            have s9 := R9.lt
            simp at p0 p1 p2 q0 q1 q2 r0 r1 r2
            by_cases hlt : k < 64
            · have keyNo : cameB true l b n k.toNat = false → (∃ k' : Int, 0 ≤ k' ∧ k' ≤ 64 ∧ Value.int .i64 (k + 1) = .int .i64 k' ∧ Blk wr w.heap.size 44 #[.bool true, .int .i64 l, .int .u64 b] ∧ Blk wr (w.heap.size + 1) 44 #[.bool false, .int .i64 0, .int .u64 0] ∧
                  Blk wr w1.heap.size 44 #[.bool true, .int .i64 n, .int .u64 (bsum (cameB true l b n) k'.toNat : Nat)] ∧ Below w.heap.size w wr) := fun hc =>
                ⟨k + 1, by omega, by omega, rfl, R0, R1, by rw [← bsum_no (cameB true l b n) k hk1 hc]; exact R9, RB⟩
              have keyYes : cameB true l b n k.toNat = true → ∀ w2, Below wr.heap.size wr w2 → (∃ k' : Int, 0 ≤ k' ∧ k' ≤ 64 ∧ Value.int .i64 (k + 1) = .int .i64 k' ∧ Blk (w2.setCell ⟨w1.heap.size, 2, none⟩ (.int .u64 (IntKind.u64.wrap (((bsum (cameB true l b n) k.toNat : Nat) : Int) + IntKind.u64.wrap (2 ^ k.toNat))))) w.heap.size 44 #[.bool true, .int .i64 l, .int .u64 b] ∧
                  Blk (w2.setCell ⟨w1.heap.size, 2, none⟩ (.int .u64 (IntKind.u64.wrap (((bsum (cameB true l b n) k.toNat : Nat) : Int) + IntKind.u64.wrap (2 ^ k.toNat))))) (w.heap.size + 1) 44 #[.bool false, .int .i64 0, .int .u64 0] ∧
                  Blk (w2.setCell ⟨w1.heap.size, 2, none⟩ (.int .u64 (IntKind.u64.wrap (((bsum (cameB true l b n) k.toNat : Nat) : Int) + IntKind.u64.wrap (2 ^ k.toNat))))) w1.heap.size 44 #[.bool true, .int .i64 n, .int .u64 (bsum (cameB true l b n) k'.toNat : Nat)] ∧
                  Below w.heap.size w (w2.setCell ⟨w1.heap.size, 2, none⟩ (.int .u64 (IntKind.u64.wrap (((bsum (cameB true l b n) k.toNat : Nat) : Int) + IntKind.u64.wrap (2 ^ k.toNat)))))) := fun hc w2 hb => by
                rw [bsum_yes (cameB true l b n) k hk1 hlt hc]
                exact ⟨k + 1, by omega, by omega, rfl, (R0.below hb s0).far (by show w.heap.size ≠ w1.heap.size; omega) _, (R1.below hb s1).far (by show w.heap.size + 1 ≠ w1.heap.size; omega) _, (R9.below hb s9).set_ 2 _, bset (bstep RB hb) (by show w.heap.size ≤ w1.heap.size; omega) _⟩
              have KN := Lib.hid keyNo
              have KY := Lib.hid keyYes
              clear keyNo keyYes
              by_cases hk : k = 0
              · have hc := Lib.hid (show cameB true l b n k.toNat = true by simp [cameB, hk]; omega)
                have hd2 : (n - k == n) = true := by simp [hk]
                have HK := Lib.hid hk
                have hk0 : k ≤ 0 := by omega
                clear hk
                go_wp2_with fail
                have hcq := grow_cell wr
                (refine wp_quietb_tail 6 (by kernel_rfl) (by kernel_rfl) ?_; simp only [List.take_succ_cons, List.take_zero, List.drop_succ_cons, List.drop_zero]; (repeat (first | go_big_quiet_step ((fail)) | quiet_step ((fail)))); refine wpQuiet_nil ?_)
                intro w2 hb_w2
                clear hcq
                (obtain ⟨hc_w2, hf_w2⟩ := bcell hb_w2; have hq_w2 := hb_w2.size; (try simp at hq_w2); (try (have hl_w2_w_0 : w.heap.size < w2.heap.size := (by omega); have hm_w2_w_0 := Nat.le_of_lt hl_w2_w_0)); (try (have hl_w2_w_1 : w.heap.size + 1 < w2.heap.size := (by omega); have hm_w2_w_1 := Nat.le_of_lt hl_w2_w_1)); (try (have hl_w2_w_2 : w.heap.size + 2 < w2.heap.size := (by omega); have hm_w2_w_2 := Nat.le_of_lt hl_w2_w_2)); (try (have hl_w2_w1_0 : w1.heap.size < w2.heap.size := (by omega); have hm_w2_w1_0 := Nat.le_of_lt hl_w2_w1_0)); (try (have hl_w2_w1_1 : w1.heap.size + 1 < w2.heap.size := (by omega); have hm_w2_w1_1 := Nat.le_of_lt hl_w2_w1_1)); (try (have hl_w2_w1_2 : w1.heap.size + 2 < w2.heap.size := (by omega); have hm_w2_w1_2 := Nat.le_of_lt hl_w2_w1_2)))
                go_wp2
                go_roundw
                case rel => exact KY.out hc.out _ hb_w2
                case measure => simp [intOf]; omega
              · have hd2 : (n - k == n) = false := by simp; omega
                by_cases hdk : n - l ≤ k
                · by_cases hbit : b / 2 ^ (l - (n - k)).toNat % 2 = 1
                  · have hdb : (bits .and .u64 (b / 2 ^ (l - (n - k)).toNat) 1 == 1) = true := by rw [show bits .and .u64 (b / 2 ^ (l - (n - k)).toNat) 1 = 1 from (odd64_shr b _ hb0 hb1).trans hbit]; rfl
                    have hc := Lib.hid (show cameB true l b n k.toNat = true by
                      obtain ⟨m, hm⟩ : ∃ m, k.toNat = m := ⟨_, rfl⟩
                      rw [hm]
                      have e : (l - (n - k)).toNat = m - (n - l).toNat := by omega
                      rw [e] at hbit
                      have h1 : ¬ (m = 0) := by omega
                      have h2 : n - l ≤ (m : Int) := by omega
                      have h3 : ¬ (n ≤ l) := by omega
                      simp only [cameB]
                      rw [if_neg (by simp), if_neg h3, tbit b _ hb0]
                      simp [hbit, h1, h2])
                    clear hbit
                    go_wp2_with fail
                    have hcq := grow_cell wr
                    (refine wp_quietb_tail 6 (by kernel_rfl) (by kernel_rfl) ?_; simp only [List.take_succ_cons, List.take_zero, List.drop_succ_cons, List.drop_zero]; (repeat (first | go_big_quiet_step ((fail)) | quiet_step ((fail)))); refine wpQuiet_nil ?_)
                    intro w2 hb_w2
                    clear hcq
                    (obtain ⟨hc_w2, hf_w2⟩ := bcell hb_w2; have hq_w2 := hb_w2.size; (try simp at hq_w2); (try (have hl_w2_w_0 : w.heap.size < w2.heap.size := (by omega); have hm_w2_w_0 := Nat.le_of_lt hl_w2_w_0)); (try (have hl_w2_w_1 : w.heap.size + 1 < w2.heap.size := (by omega); have hm_w2_w_1 := Nat.le_of_lt hl_w2_w_1)); (try (have hl_w2_w_2 : w.heap.size + 2 < w2.heap.size := (by omega); have hm_w2_w_2 := Nat.le_of_lt hl_w2_w_2)); (try (have hl_w2_w1_0 : w1.heap.size < w2.heap.size := (by omega); have hm_w2_w1_0 := Nat.le_of_lt hl_w2_w1_0)); (try (have hl_w2_w1_1 : w1.heap.size + 1 < w2.heap.size := (by omega); have hm_w2_w1_1 := Nat.le_of_lt hl_w2_w1_1)); (try (have hl_w2_w1_2 : w1.heap.size + 2 < w2.heap.size := (by omega); have hm_w2_w1_2 := Nat.le_of_lt hl_w2_w1_2)))
                    go_wp2
                    go_roundw
                    case rel => exact KY.out hc.out _ hb_w2
                    case measure => simp [intOf]; omega
                  · have hdb : (bits .and .u64 (b / 2 ^ (l - (n - k)).toNat) 1 == 1) = false := by rw [show bits .and .u64 (b / 2 ^ (l - (n - k)).toNat) 1 = b / 2 ^ (l - (n - k)).toNat % 2 from odd64_shr b _ hb0 hb1]; simp [hbit]
                    have hc := Lib.hid (show cameB true l b n k.toNat = false by
                      obtain ⟨m, hm⟩ : ∃ m, k.toNat = m := ⟨_, rfl⟩
                      rw [hm]
                      have e : (l - (n - k)).toNat = m - (n - l).toNat := by omega
                      rw [e] at hbit
                      have h1 : ¬ (m = 0) := by omega
                      have h2 : n - l ≤ (m : Int) := by omega
                      have h3 : ¬ (n ≤ l) := by omega
                      simp only [cameB]
                      rw [if_neg (by simp), if_neg h3, tbit b _ hb0]
                      simp [hbit, h1, h2])
                    clear hbit
                    go_wp2
                    go_roundw
                    case rel => exact KN.out hc.out
                    case measure => simp [intOf]; omega
                · have hc := Lib.hid (show cameB true l b n k.toNat = false by
                    obtain ⟨m, hm⟩ : ∃ m, k.toNat = m := ⟨_, rfl⟩
                    rw [hm]
                    have h1 : ¬ (m = 0) := by omega
                    have h2 : ¬ (n - l ≤ (m : Int)) := by omega
                    have h3 : ¬ (n ≤ l) := by omega
                    simp only [cameB]
                    rw [if_neg (by simp), if_neg h3]
                    simp [h1, h2])
                  go_wp2
                  go_roundw
                  case rel => exact KN.out hc.out
                  case measure => simp [intOf]; omega
            · obtain rfl : k = 64 := by omega
              go_wp2
              exact bodyPost_ret (v := .tuple #[.agg #[.bool true, .int .i64 n, .int .u64 (bsum (cameB true l b n) (64 : Int).toNat : Nat)], .int .i64 0]) (by simp [results, Try.results79, go_sem, *]) rfl ⟨rfl, by (repeat' (first | exact Below.refl _ _ | assumption | refine bstep ?_ (by assumption) | refine balloc ?_ _ | refine bdrew ?_ | refine bdrewN ?_ _ | refine bset ?_ ?_ _ | (show _ ≤ _; simp; omega) | (simp; done)))⟩
    
  · have hd : (winHE s l b n != 0) = true := by simp [hE]
    have HX := Lib.hid (show takeE s l b n = winHE s l b n ∧ takeS s l b n = false ∧ takeL s l b n = 0 ∧ takeB s l b n = 0 by
      have h : takeE s l b n = winHE s l b n := by unfold takeE; rw [if_neg hE]
      refine ⟨h, ?_, ?_, ?_⟩ <;> simp [takeS, takeL, takeB, h, hE])
    rw [HX.out.1, HX.out.2.1, HX.out.2.2.1, HX.out.2.2.2]
    clear hE
    go_enter Try.func79, Try.ntmps79
    go_wp2_with (first | (go_at_call 115; (with_reducible refine Gives.use (refWinHas_g s l b n hb0 hb1 hl0 hl1 hn0 hn1) ?_); intro w1 hb_w1; obtain ⟨hc_w1, hf_w1⟩ := bcell hb_w1; have hq_w1 := hb_w1.size; (try simp at hq_w1); (try (have hl_w1_w_0 : w.heap.size < w1.heap.size := (by omega); have hm_w1_w_0 := Nat.le_of_lt hl_w1_w_0)); (try (have hl_w1_w_1 : w.heap.size + 1 < w1.heap.size := (by omega); have hm_w1_w_1 := Nat.le_of_lt hl_w1_w_1)); (try (have hl_w1_w_2 : w.heap.size + 2 < w1.heap.size := (by omega); have hm_w1_w_2 := Nat.le_of_lt hl_w1_w_2))))
    exact bodyPost_ret (v := .tuple #[.agg #[.bool false, .int .i64 0, .int .u64 0], .int .i64 (winHE s l b n)]) (by simp [results, Try.results79, go_sem, *]) rfl ⟨rfl, by (repeat' (first | exact Below.refl _ _ | assumption | refine bstep ?_ (by assumption) | refine balloc ?_ _ | refine bdrew ?_ | refine bdrewN ?_ _ | refine bset ?_ ?_ _ | (show _ ≤ _; simp; omega) | (simp; done)))⟩

end Go.Proofs.Ytckkmfoccefcfaa

