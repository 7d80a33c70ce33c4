/- packet.Encode. -/
import Derived.Test.YtcbjngndlofpfaaPackC
import Derived.Test.YtcbjngndlofpfaaPlan
namespace Go.Proofs.Ytcbjngndlofpfaa
open Go.RowKit Go.Sort
set_option linter.unusedVariables false
attribute [local go_sem] readUpon

theorem packCheck_c (a b : Int) (p : Option Addr) (n c : Nat) (w : World) : Calls Try.prog 32 #[.agg #[.int .u32 a, .int .u32 b, .slice p n c]] w
    fun e w' => e = .returned (.int .i64 (if 200 < n then 1 else 0)) ∧ Below w.heap.size w w' := by
  by_cases h : 200 < n
  · have h0 : (200 : Int) < n := by omega
    rw [if_pos h]
    go_enter Try.func32, Try.ntmps32
    go_wp2
    go_ret
    exact ⟨rfl, by (repeat' (first | exact Below.refl _ _ | assumption | refine bstep ?_ (by assumption) | refine balloc ?_ _ | refine bdrew ?_ | refine bdrewN ?_ _ | refine bset ?_ ?_ _ | (show _ ≤ _; simp; omega) | (simp; done)))⟩
  · have h0 : (n : Int) ≤ 200 := by omega
    rw [if_neg h]
    go_enter Try.func32, Try.ntmps32
    go_wp2
    go_ret
    exact ⟨rfl, by (repeat' (first | exact Below.refl _ _ | assumption | refine bstep ?_ (by assumption) | refine balloc ?_ _ | refine bdrew ?_ | refine bdrewN ?_ _ | refine bset ?_ ?_ _ | (show _ ≤ _; simp; omega) | (simp; done)))⟩

def hd12 (n : Nat) : List Int := [69, 0, (((20 + n) / 256 : Nat) : Int), (((20 + n) % 256 : Nat) : Int), 0, 0, 0, 0, 64, 253, 0, 0]
def headOf (a b : Int) (n : Nat) : List Int := hd12 n ++ four4 a ++ four4 b
def packB (a b : Int) (n : Nat) (xs : List Int) : List Int :=
  ((headOf a b n).set 10 (((65535 - sumOf (headOf a b n)) / 256 : Nat) : Int)).set 11 (((65535 - sumOf (headOf a b n)) % 256 : Nat) : Int) ++ xs

theorem four4_B (a : Int) (h0 : 0 ≤ a) (h1 : a < 4294967296) : isB (four4 a) := by
  intro x hx
  simp [four4] at hx
  omega
theorem headOf_B (a b : Int) (n : Nat) (h0 : 0 ≤ a) (h1 : a < 4294967296) (h2 : 0 ≤ b) (h3 : b < 4294967296) (hn : n ≤ 200) : isB (headOf a b n) := by
  refine isB_app (isB_app ?_ (four4_B a h0 h1)) (four4_B b h2 h3)
  intro x hx
  simp [hd12] at hx
  omega

set_option maxHeartbeats 2000000 in
theorem enc_c (a b : Int) (h0 : 0 ≤ a) (h1 : a < 4294967296) (h2 : 0 ≤ b) (h3 : b < 4294967296) (p : Option Addr) (n c : Nat) (xs : List Int) (w : World) (h : Byt w p n xs) (hb : isB xs) (hn : n ≤ 200) :
    Calls Try.prog 33 #[.agg #[.int .u32 a, .int .u32 b, .slice p n c]] w (RetB w 0 (packB a b n xs)) := by
  have HX := Lib.hid h
  have HB := Lib.hid hb
  have hd0 : ¬ 200 < n := by omega
  clear h hb
  go_enter Try.func33, Try.ntmps33
  go_wp2_with (first
    | (go_at_call 32; refine (packCheck_c _ _ _ _ _ _).mono ?_; rintro e w1 ⟨rfl, hb_w1⟩; obtain ⟨hc_w1, hf_w1⟩ := bcell hb_w1; have hq_w1 := hb_w1.size; (try simp at hq_w1); (try (have hl_w1_w_0 : w.heap.size < w1.heap.size := (by omega); have hm_w1_w_0 := Nat.le_of_lt hl_w1_w_0)); (try (have hl_w1_w_1 : w.heap.size + 1 < w1.heap.size := (by omega); have hm_w1_w_1 := Nat.le_of_lt hl_w1_w_1)); (try (have hl_w1_w_2 : w.heap.size + 2 < w1.heap.size := (by omega); have hm_w1_w_2 := Nat.le_of_lt hl_w1_w_2)))
    | (refine wp_plan [([0, 1, 2, 5, 6], 3), ([], 4), ([], 7), ([], 8)] [9] (w.heap.size + 1) (by kernel_rfl) (by kernel_rfl) ?_))
  (iterate 5 (refine reads_step_below _ (by rfl) (fun L hL => ?_); rw [if_pos (by rfl)]; apply Exists.intro; refine ⟨fun x hx => ?_, ?_⟩; (go_simp; try first | exact rfl | exact ⟨rfl, rfl⟩); go_simp; refine hL _ ?_; clear hL L))
  have hhd : [69, 0, (20 + (n : Int)) / 256, 20 + (n : Int), 0, 0, 0, 0, 64, 253, 0, 0] = hd12 n := by unfold hd12; simp only [List.cons.injEq, true_and]; exact ⟨by omega, by omega, trivial⟩
  have ho0 := (Own.mk_new w1 [69, 0, (20 + (n : Int)) / 256, 20 + (n : Int), 0, 0, 0, 0, 64, 253, 0, 0] (by simp)).drew.cast hhd
  have hB0 : Below (w.heap.size + 1) w1 (w1.alloc (.cells (bv [69, 0, (20 + (n : Int)) / 256, 20 + (n : Int), 0, 0, 0, 0, 64, 253, 0, 0]).toArray 5)).drew := ((Below.refl _ _).alloc (by omega) _).drew
  simp only [bv, List.map_cons, List.map_nil, List.length_cons, List.length_nil, Nat.reduceAdd] at ho0 hB0
  generalize hW : (w1.alloc (.cells #[.int .u8 69, .int .u8 0, .int .u8 ((20 + (n : Int)) / 256), .int .u8 (20 + (n : Int)), .int .u8 0, .int .u8 0, .int .u8 0, .int .u8 0, .int .u8 64, .int .u8 253, .int .u8 0, .int .u8 0] 5)).drew = W0 at *
  clear hW hhd
  (try refine reads_nil ?_); refine ser_step _ (by rfl) (fun L hL => ?_)
  rw [if_pos (by rfl)]
  go_simp
  go_at_call 56
  refine (four_c a W0 h0 h1).mono ?_
  rintro e w2 ⟨rfl, rfl⟩
  have hb1 : Below (w.heap.size + 1) W0 (W0.alloc (.cells #[.int .u8 (a / 16777216), .int .u8 (a / 65536 % 256), .int .u8 (a / 256 % 256), .int .u8 (a % 256)] 5)) := (Below.refl _ _).alloc (by have := ho0.base; omega) _
  go_simp; refine hL _ _ (w.heap.size + 1) (by first | assumption | exact (by (repeat' (first | exact Below.refl _ _ | assumption | refine bstep ?_ (by assumption) | refine balloc ?_ _ | refine bdrew ?_ | refine bdrewN ?_ _ | refine bset ?_ ?_ _ | (show _ ≤ _; simp; omega) | (simp; done))))) (by first | omega | (simp; omega)) ?_; clear hL L
  (try refine reads_nil ?_); refine ser_step _ (by rfl) (fun L hL => ?_)
  refine step_app rfl (.tmp 23) (.tmp 26) rfl rfl (ho0.alloc _) rfl (Byt.new W0 (four4 a) _) (by decide) ?_
  intro p1 c1 W1 ho1 hb2
  have hb3 := hb2.mono (show w.heap.size + 1 ≤ w1.heap.size by omega)
  go_simp; refine hL _ _ (w.heap.size + 1) (by first | assumption | exact (by (repeat' (first | exact Below.refl _ _ | assumption | refine bstep ?_ (by assumption) | refine balloc ?_ _ | refine bdrew ?_ | refine bdrewN ?_ _ | refine bset ?_ ?_ _ | (show _ ≤ _; simp; omega) | (simp; done))))) (by first | omega | (simp; omega)) ?_; clear hL L
  (try refine reads_nil ?_); refine ser_step _ (by rfl) (fun L hL => ?_)
  rw [if_pos (by rfl)]
  go_simp
  go_at_call 56
  refine (four_c b W1 h2 h3).mono ?_
  rintro e w2 ⟨rfl, rfl⟩
  have hb4 : Below (w.heap.size + 1) W1 (W1.alloc (.cells #[.int .u8 (b / 16777216), .int .u8 (b / 65536 % 256), .int .u8 (b / 256 % 256), .int .u8 (b % 256)] 5)) := (Below.refl _ _).alloc (by have := ho1.base; omega) _
  go_simp; refine hL _ _ (w.heap.size + 1) (by first | assumption | exact (by (repeat' (first | exact Below.refl _ _ | assumption | refine bstep ?_ (by assumption) | refine balloc ?_ _ | refine bdrew ?_ | refine bdrewN ?_ _ | refine bset ?_ ?_ _ | (show _ ≤ _; simp; omega) | (simp; done))))) (by first | omega | (simp; omega)) ?_; clear hL L
  (try refine reads_nil ?_); refine ser_step _ (by rfl) (fun L hL => ?_)
  refine step_app rfl (.tmp 27) (.tmp 30) rfl rfl (ho1.alloc _) rfl (Byt.new W1 (four4 b) _) (by decide) ?_
  intro p2 c2 W2 ho2 hb5
  have hb6 := hb5.mono (show w.heap.size + 1 ≤ w1.heap.size by omega)
  go_simp; refine hL _ _ (w.heap.size + 1) (by first | assumption | exact (by (repeat' (first | exact Below.refl _ _ | assumption | refine bstep ?_ (by assumption) | refine balloc ?_ _ | refine bdrew ?_ | refine bdrewN ?_ _ | refine bset ?_ ?_ _ | (show _ ≤ _; simp; omega) | (simp; done))))) (by first | omega | (simp; omega)) ?_; clear hL L
  (iterate 1 (refine reads_step_below _ (by rfl) (fun L hL => ?_); rw [if_pos (by rfl)]; apply Exists.intro; refine ⟨fun x hx => ?_, ?_⟩; (go_simp; try first | exact rfl | exact ⟨rfl, rfl⟩); go_simp; refine hL _ ?_; clear hL L))
  refine reads_nil ?_
  go_simp
  have hb7 : Below (w.heap.size + 1) w1 W2 := hB0.trans (hb1.trans (hb3.trans (hb4.trans hb6)))
  clear hb1 hb3 hb4 hb6 hb2 hb5 hB0 ho0 ho1
  have HO2 := Lib.hid (show Own W2 w1.heap.size p2 20 c2 (headOf a b n) from ho2)
  clear ho2
  obtain ⟨g, hp2, hgB, hgl⟩ := HO2.out.form (by omega)
  subst hp2
  have hgw : w.heap.size + 1 ≤ g := by omega
  have hS := fold16_lt (pairSum (headOf a b n) ((headOf a b n).length / 2))
  rw [show fold16 (pairSum (headOf a b n) ((headOf a b n).length / 2)) = sumOf (headOf a b n) from rfl] at hS
  have HS := Lib.hid (show packB a b n xs = ((headOf a b n).set 10 (((65535 - sumOf (headOf a b n)) / 256 : Nat) : Int)).set 11 (((65535 - sumOf (headOf a b n)) % 256 : Nat) : Int) ++ xs from rfl)
  have HSC := Lib.hid (psum_c (some ⟨g, 0, none⟩) 20 c2 (headOf a b n) W2 HO2.out.byt (headOf_B a b n h0 h1 h2 h3 hn) (by decide) HO2.out.le)
  generalize sumOf (headOf a b n) = S at *
  go_wp2_with (first
    | (go_at_call 57; refine HSC.out.mono ?_; rintro e w3 ⟨rfl, hb_w3⟩; have ho3 := HO2.out.below hb_w3; have hc10 := ho3.cell 10 (by decide); have hc11 := ho3.cell 11 (by decide); have hf10 := ho3.free 10; have hf11 := ho3.free 11)
    | (refine wp_plan [([0, 2, 3], 1), ([], 4)] [5, 6] (w.heap.size + 1) (by kernel_rfl) (by kernel_rfl) ?_))
  have hx1 : w1.cell? ⟨w.heap.size, 2, none⟩ = some (.slice p n c) := by rw [hc_w1 _ _ (by simp)]; simp
  have hbW : Below (w.heap.size + 1) w1 ((w3.setCell ⟨g, 10, none⟩ (.int .u8 ((65535 - (S : Int)) / 256))).setCell ⟨g, 11, none⟩ (.int .u8 ((65535 - (S : Int)) % 256))).drew :=
    (((hb7.trans (hb_w3.mono (by omega))).setCell hgw _).setCell hgw _).drew
  have ho4 := (((ho3.set_ 10 ((65535 - (S : Int)) / 256)).set_ 11 ((65535 - (S : Int)) % 256)).drew).cast (show ((headOf a b n).set 10 ((65535 - (S : Int)) / 256)).set 11 ((65535 - (S : Int)) % 256) = ((headOf a b n).set 10 (((65535 - S) / 256 : Nat) : Int)).set 11 (((65535 - S) % 256 : Nat) : Int) by
    rw [show (65535 - (S : Int)) / 256 = (((65535 - S) / 256 : Nat) : Int) by omega, show (65535 - (S : Int)) % 256 = (((65535 - S) % 256 : Nat) : Int) by omega])
  generalize ((w3.setCell ⟨g, 10, none⟩ (.int .u8 ((65535 - (S : Int)) / 256))).setCell ⟨g, 11, none⟩ (.int .u8 ((65535 - (S : Int)) % 256))).drew = W at *
  have hx2 := (hbW.cell (p := ⟨w.heap.size, 2, none⟩) (by simp)).trans hx1
  clear hc10 hc11 hf10 hf11 ho3 hx1
  have hbw : Below w.heap.size w W := ((((Below.refl _ _).alloc (Nat.le_refl _) _).trans (hb_w1.mono (by simp))).trans (hbW.mono (by omega)))
  (iterate 3 (refine reads_step_below _ (by rfl) (fun L hL => ?_); rw [if_pos (by rfl)]; apply Exists.intro; refine ⟨fun x hx => ?_, ?_⟩; (go_simp; try first | exact rfl | exact ⟨rfl, rfl⟩); go_simp; refine hL _ ?_; clear hL L))
  (try refine reads_nil ?_); refine ser_step _ (by rfl) (fun L hL => ?_)
  rw [if_pos (by rfl)]
  go_simp
  go_at_call 58
  refine (clone_o g 0 20 c2 _ W ho4.byt (by decide)).mono ?_
  rintro e w4 ⟨p3, n3, c3, rfl, ho5, hb5⟩
  have hwg : w.heap.size + 1 ≤ W.heap.size := by have := hbW.size; omega
  have hb5' := hb5.mono hwg
  obtain rfl : n3 = 20 := ho5.len.symm.trans (by rw [List.length_set, List.length_set]; exact ho4.len.symm ▸ rfl)
  go_simp; refine hL _ _ (w.heap.size + 1) (by first | assumption | exact (by (repeat' (first | exact Below.refl _ _ | assumption | refine bstep ?_ (by assumption) | refine balloc ?_ _ | refine bdrew ?_ | refine bdrewN ?_ _ | refine bset ?_ ?_ _ | (show _ ≤ _; simp; omega) | (simp; done))))) (by first | omega | (simp; omega)) ?_; clear hL L
  have hbw4 : Below w.heap.size w w4 := hbw.trans (hb5.mono (by omega))
  (try refine reads_nil ?_); refine ser_step _ (by rfl) (fun L hL => ?_)
  refine step_app rfl (.tmp 44) (.tmp 46) rfl rfl ho5 rfl (HX.out.below hbw4) (by omega) ?_
  intro p4 c4 w5 ho6 hb6
  have hb6' := hb6.mono hwg
  go_simp; refine hL _ _ (w.heap.size + 1) (by first | assumption | exact (by (repeat' (first | exact Below.refl _ _ | assumption | refine bstep ?_ (by assumption) | refine balloc ?_ _ | refine bdrew ?_ | refine bdrewN ?_ _ | refine bset ?_ ?_ _ | (show _ ≤ _; simp; omega) | (simp; done))))) (by first | omega | (simp; omega)) ?_; clear hL L
  (iterate 2 (refine reads_step_below _ (by rfl) (fun L hL => ?_); rw [if_pos (by rfl)]; apply Exists.intro; refine ⟨fun x hx => ?_, ?_⟩; (go_simp; try first | exact rfl | exact ⟨rfl, rfl⟩); go_simp; refine hL _ ?_; clear hL L))
  refine reads_nil ?_
  go_wp2
  go_ret2
  rw [HS.out]
  exact RetB.own ho6 (hbw4.trans (hb6.mono (by omega)))

theorem enc_long (a b : Int) (p : Option Addr) (n c : Nat) (w : World) (hn : 200 < n) :
    Calls Try.prog 33 #[.agg #[.int .u32 a, .int .u32 b, .slice p n c]] w (RetB w 1 []) := by
  go_enter Try.func33, Try.ntmps33
  go_wp2_with (first
    | (go_at_call 32; refine (packCheck_c _ _ _ _ _ _).mono ?_; rintro e w1 ⟨rfl, hb_w1⟩; obtain ⟨hc_w1, hf_w1⟩ := bcell hb_w1; have hq_w1 := hb_w1.size; (try simp at hq_w1); (try (have hl_w1_w_0 : w.heap.size < w1.heap.size := (by omega); have hm_w1_w_0 := Nat.le_of_lt hl_w1_w_0)); (try (have hl_w1_w_1 : w.heap.size + 1 < w1.heap.size := (by omega); have hm_w1_w_1 := Nat.le_of_lt hl_w1_w_1)); (try (have hl_w1_w_2 : w.heap.size + 2 < w1.heap.size := (by omega); have hm_w1_w_2 := Nat.le_of_lt hl_w1_w_2))))
  go_ret2
  exact RetB.no w (by (repeat' (first | exact Below.refl _ _ | assumption | refine bstep ?_ (by assumption) | refine balloc ?_ _ | refine bdrew ?_ | refine bdrewN ?_ _ | refine bset ?_ ?_ _ | (show _ ≤ _; simp; omega) | (simp; done))))
end Go.Proofs.Ytcbjngndlofpfaa
