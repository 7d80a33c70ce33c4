/- What HexBytes and HexFault of the reference compute; the law HexChecks walked. -/
import Derived.Test.YtcbjngndlofpfaaHexA
namespace Go.Proofs.Ytcbjngndlofpfaa
open Go.RowKit Go.Sort
set_option linter.unusedVariables false

theorem i64_and_one (n : Nat) (hn : n < 9223372036854775808) : bits .and .i64 (n : Int) 1 = ((n % 2 : Nat) : Int) := by
  have e : (1 : Int) = ((1 : Nat) : Int) := rfl
  have h1 : (BitVec.ofInt 64 (n : Int)).toNat = n := by
    rw [BitVec.ofInt_natCast, BitVec.toNat_ofNat]; exact Nat.mod_eq_of_lt (by omega)
  have h2 : (BitVec.ofInt 64 (1 : Int)).toNat = 1 := by decide
  show IntKind.i64.wrap ((BitVec.ofInt 64 (n : Int) &&& BitVec.ofInt 64 1).toNat : Int) = _
  rw [BitVec.toNat_and, h1, h2, nat_mask1, IntKind.wrap_i64]
  omega

theorem strI_at (s : ByteArray) (i : Nat) (h : i < s.size) : hx ((strI s).getD i 0) = hv s i := by
  unfold hv
  congr 1
  rw [strI, List.getD_eq_getElem?_getD, List.getElem?_map]
  have h' : i < s.data.size := h
  have e : s.data.getD i 0 = s.data[i] := by simp only [Array.getD, h', dif_pos]; rfl
  rw [e, List.getElem?_eq_getElem (by simpa using h')]
  simp

def hexPart (s : ByteArray) (i : Nat) : List Int := hexVals s (i / 2) ++ (if i % 2 = 1 then [hv s (i - 1)] else [])
theorem hexPart_len (s : ByteArray) (i : Nat) : (hexPart s i).length = (i + 1) / 2 := by
  unfold hexPart
  rw [List.length_append, hexVals_len]
  split <;> simp <;> omega
theorem hexPart_even (s : ByteArray) (i : Nat) (h : i % 2 = 0) : (hexPart s i ++ [0]).set (i / 2) (hv s i) = hexPart s (i + 1) := by
  have h1 : ¬ i % 2 = 1 := by omega
  have h2 : (i + 1) % 2 = 1 := by omega
  have h3 : (i + 1) / 2 = i / 2 := by omega
  unfold hexPart
  rw [if_neg h1, if_pos h2, h3, List.append_nil]
  rw [List.set_append_right _ _ (by rw [hexVals_len]; omega), hexVals_len]
  simp
theorem hexPart_odd (s : ByteArray) (i : Nat) (h : i % 2 = 1) : (hexPart s i).set (i / 2) (16 * hv s (i - 1) + hv s i) = hexPart s (i + 1) := by
  have h2 : ¬ (i + 1) % 2 = 1 := by omega
  have h3 : (i + 1) / 2 = i / 2 + 1 := by omega
  unfold hexPart
  rw [if_pos h, if_neg h2, h3, List.append_nil, hexVals_succ]
  rw [List.set_append_right _ _ (by rw [hexVals_len]; omega), hexVals_len]
  have e1 : 2 * (i / 2) = i - 1 := by omega
  have e2 : 2 * (i / 2) + 1 = i := by omega
  rw [e2, e1]
  simp
theorem hexPart_getE (s : ByteArray) (i : Nat) (h : i % 2 = 0) : (hexPart s i ++ [0]).getD (i / 2) 0 = 0 := by
  have hl := hexPart_len s i
  rw [List.getD_eq_getElem?_getD, List.getElem?_append_right (by omega)]
  have : i / 2 - (hexPart s i).length = 0 := by omega
  rw [this]; rfl
theorem hexPart_getO (s : ByteArray) (i : Nat) (h : i % 2 = 1) : (hexPart s i).getD (i / 2) 0 = hv s (i - 1) := by
  unfold hexPart
  rw [if_pos h, List.getD_eq_getElem?_getD, List.getElem?_append_right (by rw [hexVals_len]; omega), hexVals_len]
  simp

theorem refBytes_long (s : ByteArray) (w : World) (hs : 2000 < s.size) : Calls Try.prog 50 #[.string s] w (RetB w (hexE s) (hexR s)) := by
  have hE := Lib.hid (show hexE s = 1 by unfold hexE; rw [if_pos hs])
  have hR := Lib.hid (show hexR s = [] by unfold hexR; rw [hE.out]; rfl)
  rw [hE.out, hR.out]
  have hd0 : (2000 : Int) < s.size := by omega
  clear hs
  go_enter Try.func50, Try.ntmps50
  go_wp2_with fail
  go_ret2
  exact RetB.no w (Below.refl _ _)

theorem refBytes_odd (s : ByteArray) (w : World) (hs : s.size ≤ 2000) (ho : ¬ s.size % 2 = 0) : Calls Try.prog 50 #[.string s] w (RetB w (hexE s) (hexR s)) := by
  have hE := Lib.hid (show hexE s = 3 by unfold hexE; rw [if_neg (by omega), if_neg ho])
  have hR := Lib.hid (show hexR s = [] by unfold hexR; rw [hE.out]; rfl)
  rw [hE.out, hR.out]
  have hd0 : ((s.size : Nat) : Int) ≤ 2000 := by omega
  have hd1 : (bits .and .i64 ((s.size : Nat) : Int) 1 == 1) = true := by rw [i64_and_one _ (by omega)]; simp; omega
  clear hs ho
  go_enter Try.func50, Try.ntmps50
  go_wp2_with fail
  go_ret2
  exact RetB.no w (Below.refl _ _)

set_option maxRecDepth 20000 in
set_option maxHeartbeats 4000000 in
theorem refBytes_even (s : ByteArray) (w : World) (hs : s.size ≤ 2000) (he : s.size % 2 = 0) : Calls Try.prog 50 #[.string s] w (RetB w (hexE s) (hexR s)) := by
  have hE := Lib.hid (show hexE s = if hexGood s = true then 0 else 3 by unfold hexE; rw [if_neg (by omega), if_pos he])
  have hd0 : ((s.size : Nat) : Int) ≤ 2000 := by omega
  have hd1 : (bits .and .i64 ((s.size : Nat) : Int) 1 == 1) = false := by rw [i64_and_one _ (by omega)]; simp; omega
  have hcv := run_conv s
  have HE := Lib.hid he
  clear he
  go_enter Try.func50, Try.ntmps50
  go_wp2_with fail
  clear hcv
  have hB1 := bWorld_below w s
  have hR1 := bWorld_byt w s
  obtain ⟨W, hW⟩ : ∃ W, W = bWorld w s := ⟨_, rfl⟩
  rw [← hW] at hB1 hR1 ⊢
  clear hW
  have HR1 := Lib.hid hR1
  clear hR1
  have hWsz := hB1.size
  go_loopw [4, 18] (fun v i wr => ∃ (i' : Nat) (q : Option Addr) (d : Nat), i' ≤ s.size ∧ i = .int .i64 i' ∧ v = .slice q ((i' + 1) / 2) d ∧ Own wr W.heap.size q ((i' + 1) / 2) d (hexPart s i') ∧ Hid (∀ j, j < i' → 0 ≤ hv s j) ∧ Below W.heap.size W wr) (fun _ i _ => s.size - (intOf i).toNat)
  case atStart => exact ⟨0, none, 0, by omega, rfl, rfl, Own.nil _ _ (Nat.le_refl _), fun j hj => by omega, Below.refl _ _⟩
  case round =>
    obtain ⟨i, q, d, hi, rfl, rfl, ho, HG, hbw⟩ := hrel
    have hfin : Below w.heap.size w wr := hB1.trans (hbw.mono hWsz)
    by_cases hlt : i < s.size
    · obtain ⟨b, o, hbo, hbl, hcell⟩ := HR1.out.at_ hlt
      simp only [Option.some.injEq, Addr.mk.injEq, and_true] at hbo
      obtain ⟨rfl, rfl⟩ := hbo
      have hci : wr.cell? ⟨w.heap.size, i, none⟩ = some (.int .u8 ((strI s).getD i 0)) := by
        have := (hbw.cell (p := ⟨w.heap.size, 0 + i, none⟩) hbl).trans hcell
        simpa using this
      generalize hX : (strI s).getD i 0 = X at hci
      have hXv : hx X = hv s i := by rw [← hX]; exact strI_at s i hlt
      have HIB := Lib.hid (show ∀ w0 : World, Calls Try.prog 69 #[.string ⟨#[48, 49, 50, 51, 52, 53, 54, 55, 56, 57, 97, 98, 99, 100, 101, 102]⟩, .int .u8 X] w0 fun e w' => e = .returned (.int .i64 (hv s i)) ∧ w0 = w' from fun w0 => (ib_c X w0).mono fun _ _ h => ⟨by rw [h.1, hXv], h.2.symm⟩)
      clear hX hcell hbl hXv
      have y1 : hv s i ≤ 15 := (hx_bd _).2
      have y2 : -1 ≤ hv s i := (hx_bd _).1
      by_cases hg : 0 ≤ hv s i
      · have HG' := Lib.hid (show ∀ j, j < i + 1 → 0 ≤ hv s j from fun j hj => by
          by_cases h1 : j < i
          · exact HG.out j h1
          · obtain rfl : j = i := by omega
            exact hg)
        by_cases hev : i % 2 = 0
        · have hda : (bits .and .i64 (i : Int) 1 == 0) = true := by rw [i64_and_one _ (by omega)]; simp; omega
          have HEv := Lib.hid hev
          have hlen2 : i / 2 < (i + 1) / 2 + 1 := by omega
          clear hev
          go_wp2_with (first
            | (go_at_call 69; refine (HIB.out _).mono ?_; rintro e w' ⟨rfl, rfl⟩)
            | (at_builtin; refine wp_app rfl (.tmp 30) (.tmp 31) rfl rfl (ho.alloc _) rfl (Byt.new wr [0] _) (by first | (simp; done) | omega | (simp; omega)) ?_; intro p1 c1 w1 ho1 hb1; obtain ⟨g, rfl, hgB, hgl⟩ := ho1.form (Nat.succ_pos _); have hcg : w1.cell? ⟨g, i / 2, none⟩ = some (.int .u8 0) := (by have hq := ho1.cell (i / 2) hlen2; rw [hexPart_getE s i HEv.out] at hq; exact hq); have hfg := ho1.free (i / 2)))
          go_roundw
          case rel =>
            have e0 : (i + 1) / 2 + 1 = (i + 1 + 1) / 2 := by have := HEv.out; omega
            have ho2 := (ho1.set_ (i / 2) (hv s i)).cast (hexPart_even s i HEv.out)
            rw [e0] at ho2
            exact ⟨i + 1, _, c1, by omega, by go_num, by rw [e0], ho2, HG'.out, (hbw.trans (((Below.refl _ _).alloc hbw.size _).trans hb1)).setCell hgB _⟩
          case measure => simp [intOf]; omega
        · have hod : i % 2 = 1 := by omega
          have hda : (bits .and .i64 (i : Int) 1 == 0) = false := by rw [i64_and_one _ (by omega)]; simp; omega
          have hlen2 : i / 2 < (i + 1) / 2 := by omega
          obtain ⟨g, rfl, hgB, hgl⟩ := ho.form (by omega)
          have hcg : wr.cell? ⟨g, i / 2, none⟩ = some (.int .u8 (hv s (i - 1))) := by have hq := ho.cell (i / 2) hlen2; rw [hexPart_getO s i hod] at hq; exact hq
          have hfg := ho.free (i / 2)
          have y3 := HG.out (i - 1) (by omega)
          have y4 : hv s (i - 1) ≤ 15 := (hx_bd _).2
          have HOd := Lib.hid hod
          clear hod hev
          go_wp2_with (first
            | (go_at_call 69; refine (HIB.out _).mono ?_; rintro e w' ⟨rfl, rfl⟩))
          go_roundw
          case rel =>
            have e0 : (i + 1) / 2 = (i + 1 + 1) / 2 := by have := HOd.out; omega
            have ho2 := (ho.set_ (i / 2) (hv s (i - 1) * 16 + hv s i)).cast (ys := hexPart s (i + 1)) (by rw [Int.mul_comm (hv s (i - 1)) 16]; exact hexPart_odd s i HOd.out)
            rw [e0] at ho2
            exact ⟨i + 1, _, d, by omega, by go_num, by rw [e0], ho2, HG'.out, hbw.setCell hgB _⟩
          case measure => simp [intOf]; omega
      · have hbad : ¬ hexGood s = true := fun h => by
          have h' := (hexGood_iff s).1 h
          exact hg (h' i hlt)
        have HX := Lib.hid (show hexE s = 3 ∧ hexR s = [] by
          have h3 : hexE s = 3 := by rw [hE.out, if_neg hbad]
          refine ⟨h3, ?_⟩; unfold hexR; rw [h3]; rfl)
        go_wp2_with (first
          | (go_at_call 69; refine (HIB.out _).mono ?_; rintro e w' ⟨rfl, rfl⟩))
        go_ret2
        rw [HX.out.1, HX.out.2]
        exact RetB.no w hfin
    · obtain rfl : i = s.size := by omega
      have HX := Lib.hid (show hexE s = 0 ∧ hexR s = hexPart s s.size by
        have h0 : hexE s = 0 := by rw [hE.out, if_pos ((hexGood_iff s).2 HG.out)]
        refine ⟨h0, ?_⟩
        have hev := HE.out
        unfold hexR hexPart
        rw [if_pos h0, if_neg (by omega)]
        simp)
      go_wp2_with fail
      go_ret2
      rw [HX.out.1, HX.out.2]
      exact RetB.own ho hfin

theorem refBytes_c (s : ByteArray) (w : World) : Calls Try.prog 50 #[.string s] w (RetB w (hexE s) (hexR s)) := by
  by_cases hs : 2000 < s.size
  · exact refBytes_long s w hs
  · by_cases he : s.size % 2 = 0
    · exact refBytes_even s w (by omega) he
    · exact refBytes_odd s w (by omega) he

theorem keyE_val {s : ByteArray} (h : s.size = 64) : keyE s = (if hexE s = 0 then 0 else 3) := by
  unfold keyE
  rw [if_pos h]
  unfold hexE
  rw [if_neg (by omega), if_pos (by omega)]
  split <;> simp

theorem hexFault_g (s : ByteArray) : Gives Try.prog 27 #[.string s] (.int .i64 (keyE s)) := by
  intro w
  by_cases h : s.size = 64
  · have hk := Lib.hid (keyE_val h)
    have hd : (((s.size : Nat) : Int) != 64) = false := by simp; omega
    clear h
    by_cases hE : hexE s = 0
    · have hdE : (hexE s != 0) = false := by simp [hE]
      have HE := Lib.hid hE
      clear hE
      go_enter Try.func27, Try.ntmps27
      go_wp2_with fail
      refine (refBytes_c s _).mono ?_
      rintro e w1 ⟨p, n, c, rfl, _, _, hb⟩
      go_wp2_with fail
      go_ret
      exact ⟨ret_int (by rw [hk.out, if_pos HE.out]), hb⟩
    · have hdE : (hexE s != 0) = true := by simp [hE]
      have HE := Lib.hid hE
      clear hE
      go_enter Try.func27, Try.ntmps27
      go_wp2_with fail
      refine (refBytes_c s _).mono ?_
      rintro e w1 ⟨p, n, c, rfl, _, _, hb⟩
      go_wp2_with fail
      go_ret
      exact ⟨ret_int (by rw [hk.out, if_neg HE.out]), hb⟩
  · have hk := Lib.hid (show keyE s = 1 by unfold keyE; rw [if_neg h])
    have hd : (((s.size : Nat) : Int) != 64) = true := by simp; omega
    clear h
    go_enter Try.func27, Try.ntmps27
    go_wp2_with fail
    go_ret
    exact ⟨ret_int hk.out.symm, Below.refl _ _⟩

theorem law_HexChecks (s : ByteArray) (w : World) (_hs : s.size ≤ maxLen) :
    Calls Try.prog 7 #[.string s] w fun e w' => e = .returned (.bool true) ∧ Below w.heap.size w w' := by
  clear _hs
  go_enter Try.func7, Try.ntmps7
  go_wp2_with (first | (go_at_call 26; (with_reducible refine Gives.use (hexCheck_g s) ?_); intro w1 hb_w1; obtain ⟨hc_w1, hf_w1⟩ := bcell hb_w1; have hq_w1 := hb_w1.size; (try simp at hq_w1); (try (have hl_w1_w_0 : w.heap.size < w1.heap.size := (by omega); have hm_w1_w_0 := Nat.le_of_lt hl_w1_w_0)); (try (have hl_w1_w_1 : w.heap.size + 1 < w1.heap.size := (by omega); have hm_w1_w_1 := Nat.le_of_lt hl_w1_w_1)); (try (have hl_w1_w_2 : w.heap.size + 2 < w1.heap.size := (by omega); have hm_w1_w_2 := Nat.le_of_lt hl_w1_w_2))) | (go_at_call 27; (with_reducible refine Gives.use (hexFault_g s) ?_); intro w2 hb_w2; obtain ⟨hc_w2, hf_w2⟩ := bcell hb_w2; have hq_w2 := hb_w2.size; (try simp at hq_w2); (try (have hl_w2_w_0 : w.heap.size < w2.heap.size := (by omega); have hm_w2_w_0 := Nat.le_of_lt hl_w2_w_0)); (try (have hl_w2_w_1 : w.heap.size + 1 < w2.heap.size := (by omega); have hm_w2_w_1 := Nat.le_of_lt hl_w2_w_1)); (try (have hl_w2_w_2 : w.heap.size + 2 < w2.heap.size := (by omega); have hm_w2_w_2 := Nat.le_of_lt hl_w2_w_2)); (try (have hl_w2_w1_0 : w1.heap.size < w2.heap.size := (by omega); have hm_w2_w1_0 := Nat.le_of_lt hl_w2_w1_0)); (try (have hl_w2_w1_1 : w1.heap.size + 1 < w2.heap.size := (by omega); have hm_w2_w1_1 := Nat.le_of_lt hl_w2_w1_1)); (try (have hl_w2_w1_2 : w1.heap.size + 2 < w2.heap.size := (by omega); have hm_w2_w1_2 := Nat.le_of_lt hl_w2_w1_2))))
  go_ret
  exact ⟨rfl, by (repeat' (first | exact Below.refl _ _ | assumption | refine bstep ?_ (by assumption) | refine balloc ?_ _ | refine bdrew ?_ | refine bdrewN ?_ _ | refine bset ?_ ?_ _ | (show _ ≤ _; simp; omega) | (simp; done)))⟩
end Go.Proofs.Ytcbjngndlofpfaa
