/- The law PacketEncodes walked. -/
import Derived.Test.YtcbjngndlofpfaaPackE
namespace Go.Proofs.Ytcbjngndlofpfaa
open Go.RowKit Go.Sort
set_option linter.unusedVariables false
set_option maxHeartbeats 1000000 in
theorem law_PacketEncodes (a b : Int) (p : Option Addr) (n c : Nat) (z : List Int) (w : World) (wa : (Lit.int .u32 a).wf = true) (wb : (Lit.int .u32 b).wf = true) (hz : IsRow .u8 w p n c z) :
    Calls Try.prog 9 #[.agg #[.int .u32 a, .int .u32 b, .slice p n c]] w fun e w' => e = .returned (.bool true) ∧ Below w.heap.size w w' := by
  obtain ⟨h0, h1⟩ := wfb_u32 wa
  obtain ⟨h2, h3⟩ := wfb_u32 wb
  obtain ⟨h, hb, _⟩ := Byt.of_isRow hz
  clear hz
  obtain ⟨E, xs, h4, h5, h6⟩ : ∃ (E : Int) (xs : List Int), (∀ w, Calls Try.prog 32 #[.agg #[.int .u32 a, .int .u32 b, .slice p n c]] w fun e w' => e = .returned (.int .i64 E) ∧ Below w.heap.size w w') ∧ (∀ w, Byt w p n (z.take n) → Calls Try.prog 33 #[.agg #[.int .u32 a, .int .u32 b, .slice p n c]] w (RetB w E xs)) ∧ (∀ w, Byt w p n (z.take n) → Calls Try.prog 34 #[.agg #[.int .u32 a, .int .u32 b, .slice p n c]] w (RetB w E xs)) := by
    obtain ⟨a, rfl⟩ := Int.eq_ofNat_of_zero_le h0
    obtain ⟨b, rfl⟩ := Int.eq_ofNat_of_zero_le h2
    by_cases hn : n ≤ 200
    · refine ⟨0, packB a b n (z.take n), fun w => ?_, fun w h => enc_c a b h0 h1 h2 h3 p n c _ w h hb hn, fun w h => refPack_c a b (by omega) (by omega) p n c _ w h hb hn⟩
      have := packCheck_c a b p n c w
      rwa [if_neg (by omega)] at this
    · refine ⟨1, [], fun w => ?_, fun w h => enc_long a b p n c w (by omega), fun w h => refPack_long a b p n c w (by omega)⟩
      have := packCheck_c a b p n c w
      rwa [if_pos (by omega)] at this
  have H0 := Lib.hid h4
  have H1 := Lib.hid h5
  have H2 := Lib.hid h6
  have H := Lib.hid h
  clear h4 h5 h6 h hb wa wb h0 h1 h2 h3
  go_enter Try.func9, Try.ntmps9
  go_wp2_with fail
  refine (H0.out _).mono ?_
  rintro e w0 ⟨rfl, hb_w0⟩
  obtain ⟨hc_w0, hf_w0⟩ := bcell hb_w0; have hq_w0 := hb_w0.size; (try simp at hq_w0); (try (have hl_w0_w_0 : w.heap.size < w0.heap.size := (by omega); have hm_w0_w_0 := Nat.le_of_lt hl_w0_w_0)); (try (have hl_w0_w_1 : w.heap.size + 1 < w0.heap.size := (by omega); have hm_w0_w_1 := Nat.le_of_lt hl_w0_w_1)); (try (have hl_w0_w_2 : w.heap.size + 2 < w0.heap.size := (by omega); have hm_w0_w_2 := Nat.le_of_lt hl_w0_w_2))
  go_wp2_with fail
  have hbw0 : Below w.heap.size w w0 := by (repeat' (first | exact Below.refl _ _ | assumption | refine bstep ?_ (by assumption) | refine balloc ?_ _ | refine bdrew ?_ | refine bdrewN ?_ _ | refine bset ?_ ?_ _ | (show _ ≤ _; simp; omega) | (simp; done)))
  refine (H1.out _ (H.out.below hbw0)).mono ?_
  rintro e w1 ⟨p1, n1, c1, rfl, hr1, hc1, hb_w1⟩
  obtain ⟨hc_w1, hf_w1⟩ := bcell hb_w1; have hq_w1 := hb_w1.size; (try simp at hq_w1); (try (have hl_w1_w_0 : w.heap.size < w1.heap.size := (by omega); have hm_w1_w_0 := Nat.le_of_lt hl_w1_w_0)); (try (have hl_w1_w_1 : w.heap.size + 1 < w1.heap.size := (by omega); have hm_w1_w_1 := Nat.le_of_lt hl_w1_w_1)); (try (have hl_w1_w_2 : w.heap.size + 2 < w1.heap.size := (by omega); have hm_w1_w_2 := Nat.le_of_lt hl_w1_w_2))
  have R1 := Lib.hid hr1
  have hl1 := hr1.len
  clear hr1
  go_wp2_with fail
  have hbw1 : Below w.heap.size w w1 := by (repeat' (first | exact Below.refl _ _ | assumption | refine bstep ?_ (by assumption) | refine balloc ?_ _ | refine bdrew ?_ | refine bdrewN ?_ _ | refine bset ?_ ?_ _ | (show _ ≤ _; simp; omega) | (simp; done)))
  refine (H2.out _ (H.out.below hbw1)).mono ?_
  rintro e w2 ⟨p2, n2, c2, rfl, hr2, hc2, hb2⟩
  obtain rfl : n1 = n2 := hl1.symm.trans hr2.len
  have R2 := Lib.hid hr2
  clear hr2 hl1
  go_wp2_with (go_at_call 17; refine (same_c p1 p2 n1 c1 c2 xs _ (R1.out.below hb2) R2.out).mono ?_; rintro e w3 ⟨rfl, rfl⟩)
  go_ret
  exact ⟨rfl, by (repeat' (first | exact Below.refl _ _ | assumption | refine bstep ?_ (by assumption) | refine balloc ?_ _ | refine bdrew ?_ | refine bdrewN ?_ _ | refine bset ?_ ?_ _ | (show _ ≤ _; simp; omega) | (simp; done)))⟩
end Go.Proofs.Ytcbjngndlofpfaa
