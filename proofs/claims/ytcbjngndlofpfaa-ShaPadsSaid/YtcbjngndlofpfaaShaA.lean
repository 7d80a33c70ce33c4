/- What sha.Pad, and its reference, compute; the law ShaPads walked. -/
import Derived.Test.YtcbjngndlofpfaaByt
namespace Go.Proofs.Ytcbjngndlofpfaa
open Go.RowKit Go.Sort
set_option linter.unusedVariables false

def padZ (n : Nat) : Nat := (119 - n % 64) % 64
def be8 (n : Nat) : List Int := (List.range 8).map fun i => ((n / 2 ^ (8 * (7 - i)) % 256 : Nat) : Int)
def padTo (xs : List Int) (j : Nat) : List Int := xs ++ [128] ++ List.replicate j 0
def shaPad (xs : List Int) : List Int := padTo xs (padZ xs.length) ++ be8 (8 * xs.length)

theorem padTo_len (xs : List Int) (j : Nat) : (padTo xs j).length = xs.length + 1 + j := by simp [padTo]; omega
theorem padTo_succ (xs : List Int) (j : Nat) : padTo xs j ++ [0] = padTo xs (j + 1) := by
  simp [padTo, List.replicate_succ']
theorem be8_take_succ (n k : Nat) (hk : k < 8) : (be8 n).take (k + 1) = (be8 n).take k ++ [((n / 2 ^ (8 * (7 - k)) % 256 : Nat) : Int)] := by
  have hl : (be8 n).length = 8 := by simp [be8]
  rw [List.take_succ_eq_append_getElem (by omega)]
  simp [be8]
theorem padTo_B (xs : List Int) (j : Nat) (h : isB xs) : isB (padTo xs j) := by
  intro x hx
  simp [padTo] at hx
  rcases hx with h1 | h1 | ⟨_, h1⟩
  · exact h x h1
  · omega
  · omega
theorem be8_B (n : Nat) : isB (be8 n) := by
  intro x hx
  simp [be8] at hx
  omega
theorem shaPad_B {xs : List Int} (h : isB xs) : isB (shaPad xs) := isB_app (padTo_B _ _ h) (be8_B _)
theorem shaPad_len (xs : List Int) : (shaPad xs).length = xs.length + 9 + padZ xs.length := by
  simp [shaPad, padTo_len, be8]; omega

def slLen : Value → Nat | .slice _ n _ => n | _ => 0

set_option maxHeartbeats 2000000 in
theorem pad_c (p : Option Addr) (n c : Nat) (xs : List Int) (w : World) (h : Byt w p n xs) (hb : isB xs) (hn : n ≤ 1000) :
    Calls Try.prog 15 #[.slice p n c] w (RetB w 0 (shaPad xs)) := by
  have hl := h.len
  have HL := Lib.hid hl
  clear hl
  have hd0 : ¬ (1000 : Int) < n := by omega
  go_enter Try.func15, Try.ntmps15
  go_wp2_with (first
    | (at_builtin; refine wp_app rfl (.const (.slice none 0 0)) (.tmp 10) rfl rfl (Own.nil w w.heap.size (Nat.le_refl _)) rfl h (by omega) ?_; intro p1 c1 w1 ho1 hb1; simp only [Nat.zero_add, List.nil_append] at ho1)
    | (at_builtin; refine wp_app rfl (.tmp 11) (.tmp 12) rfl rfl (ho1.alloc _) rfl (Byt.new w1 [128] _) (by simp; omega) ?_; intro p2 c2 w2 ho2 hb2))
  have hpad : padTo xs 0 = xs ++ [128] := by simp [padTo]
  have HP0 := Lib.hid hpad
  have hbw2 : Below w.heap.size w w2 := hb1.trans (((Below.refl _ _).alloc hb1.size _).trans hb2)
  clear hpad
  go_loopw [4] (fun v wr => ∃ (j : Nat) (q : Option Addr) (d : Nat), j ≤ padZ n ∧ v = .slice q (n + 1 + j) d ∧ Own wr w.heap.size q (n + 1 + j) d (padTo xs j) ∧ Below w.heap.size w wr) (fun v _ => padZ n + n + 1 - slLen v)
  case atStart => exact ⟨0, p2, c2, by omega, rfl, ho2.cast HP0.out.symm, hbw2⟩
  case round =>
    obtain ⟨j, q, d, hj, rfl, ho, hbw⟩ := hrel
    clear ho1 ho2 hb1 hb2 hbw2
    have hpz : padZ n < 64 := by unfold padZ; omega
    by_cases hlt : j < padZ n
    · have hd : (((n : Int) + 1 + (j : Int)) % 64 != 56) = true := by simp; unfold padZ at hlt; omega
      go_wp2_with (first
        | (at_builtin; refine wp_app rfl (.tmp 18) (.tmp 19) rfl rfl (ho.alloc _) rfl (Byt.new wr [0] _) (by simp; omega) ?_; intro p1 c1 w1 ho1 hb1))
      go_roundw
      case rel => exact ⟨j + 1, p1, c1, by omega, rfl, ho1.cast (padTo_succ xs j), hbw.trans (((Below.refl _ _).alloc (by have := ho.base; omega) _).trans hb1)⟩
      case measure => simp [slLen]; omega
    · obtain rfl : j = padZ n := by omega
      have hd : (((n : Int) + 1 + ((padZ n : Nat) : Int)) % 64 != 56) = false := by simp; unfold padZ; omega
      go_wp2_with fail
      go_loopw [4, 6] (fun v i wr => ∃ (k : Nat) (q : Option Addr) (d : Nat), k ≤ 8 ∧ i = .int .i64 (7 - (k : Int)) ∧ v = .slice q (n + 1 + padZ n + k) d ∧ Own wr w.heap.size q (n + 1 + padZ n + k) d (padTo xs (padZ n) ++ (be8 (8 * n)).take k) ∧ Below w.heap.size w wr) (fun _ i _ => (intOf i + 1).toNat)
      case atStart => exact ⟨0, q, d, by omega, rfl, rfl, ho.cast (by simp), hbw⟩
      case round =>
        obtain ⟨k, q, d, hk, rfl, rfl, ho, hbw⟩ := hrel
        by_cases hlt : k < 8
        · have hV : 8 * (n : Int) / 2 ^ (8 * (7 - k)) % 256 = ((8 * n / 2 ^ (8 * (7 - k)) % 256 : Nat) : Int) := by rw [pow_cast]; simp
          have HV := Lib.hid hV
          have hpz : padZ n < 64 := by unfold padZ; omega
          clear hV
          go_wp2_with (first
            | (at_builtin; refine wp_app rfl (.tmp 28) (.tmp 34) rfl rfl (ho.alloc _) rfl (Byt.new wr [8 * (n : Int) / 2 ^ (8 * (7 - k)) % 256] _) (by simp; omega) ?_; intro p1 c1 w1 ho1 hb1))
          go_roundw
          case rel => exact ⟨k + 1, p1, c1, by omega, by go_num, rfl, ho1.cast (by rw [HV.out, be8_take_succ _ _ hlt, List.append_assoc]), hbw.trans (((Below.refl _ _).alloc (by have := ho.base; omega) _).trans hb1)⟩
          case measure => simp [intOf]; omega
        · obtain rfl : k = 8 := by omega
          go_wp2_with (first
            | (at_builtin; refine wp_app rfl (.const (.slice none 0 0)) (.tmp 36) rfl rfl (Own.nil _ w.heap.size (by have := ho.base; omega)) rfl ho.byt (by omega) ?_; intro p1 c1 w1 ho1 hb1; simp only [Nat.zero_add, List.nil_append] at ho1))
          go_ret2
          exact RetB.own (ho1.cast (by have := HL.out; unfold shaPad; rw [this, List.take_of_length_le (by simp [be8])])) (hbw.trans hb1)

theorem pad_long (p : Option Addr) (n c : Nat) (w : World) (hn : 1000 < n) : Calls Try.prog 15 #[.slice p n c] w (RetB w 1 []) := by
  have hd0 : (1000 : Int) < n := by omega
  go_enter Try.func15, Try.ntmps15
  go_wp2_with fail
  go_ret2
  exact RetB.no w (Below.refl _ _)

theorem be8_small (n : Nat) (hn : n ≤ 1000) : [0, 0, 0, 0, (n : Int) * 8 / 16777216, (n : Int) * 8 / 65536, (n : Int) * 8 / 256, (n : Int) * 8 % 256] = be8 (8 * n) := by
  have e : be8 (8 * n) = [((8 * n / 2 ^ 56 % 256 : Nat) : Int), ((8 * n / 2 ^ 48 % 256 : Nat) : Int), ((8 * n / 2 ^ 40 % 256 : Nat) : Int), ((8 * n / 2 ^ 32 % 256 : Nat) : Int), ((8 * n / 2 ^ 24 % 256 : Nat) : Int), ((8 * n / 2 ^ 16 % 256 : Nat) : Int), ((8 * n / 2 ^ 8 % 256 : Nat) : Int), ((8 * n / 2 ^ 0 % 256 : Nat) : Int)] := rfl
  rw [e]
  simp only [List.cons.injEq]
  refine ⟨?_, ?_, ?_, ?_, ?_, ?_, ?_, ?_, ?_⟩ <;> first | trivial | omega

set_option maxHeartbeats 2000000 in
theorem refPad_c (p : Option Addr) (n c : Nat) (xs : List Int) (w : World) (h : Byt w p n xs) (hb : isB xs) (hn : n ≤ 1000) :
    Calls Try.prog 16 #[.slice p n c] w (RetB w 0 (shaPad xs)) := by
  have hl := h.len
  have HL := Lib.hid hl
  clear hl
  have hd0 : ¬ (1000 : Int) < n := by omega
  go_enter Try.func16, Try.ntmps16
  go_wp2_with (first
    | (at_builtin; refine wp_app rfl (.tmp 9) (.tmp 10) rfl rfl (Own.mk_new w [] (by simp)) rfl (h.alloc _) (by omega) ?_; intro p1 c1 w1 ho1 hb1; simp only [Nat.zero_add, List.nil_append] at ho1)
    | (at_builtin; refine wp_app rfl (.tmp 11) (.tmp 12) rfl rfl (ho1.alloc _) rfl (Byt.new w1 [128] _) (by simp; omega) ?_; intro p2 c2 w2 ho2 hb2))
  have HP0 := Lib.hid (show padTo xs 0 = xs ++ [128] by simp [padTo])
  have hbw1 : Below w.heap.size w w1 := ((Below.refl _ _).alloc (Nat.le_refl _) _).trans hb1
  have hbw2 : Below w.heap.size w w2 := hbw1.trans (((Below.refl _ _).alloc hbw1.size _).trans hb2)
  go_loopw [4] (fun v wr => ∃ (j : Nat) (q : Option Addr) (d : Nat), j ≤ padZ n ∧ v = .slice q (n + 1 + j) d ∧ Own wr w.heap.size q (n + 1 + j) d (padTo xs j) ∧ Below w.heap.size w wr) (fun v _ => padZ n + n + 1 - slLen v)
  case atStart => exact ⟨0, p2, c2, by omega, rfl, ho2.cast HP0.out.symm, hbw2⟩
  case round =>
    obtain ⟨j, q, d, hj, rfl, ho, hbw⟩ := hrel
    clear ho1 ho2 hb1 hb2 hbw2 hbw1
    have hpz : padZ n < 64 := by unfold padZ; omega
    by_cases hlt : j < padZ n
    · have hd : (((n : Int) + 1 + (j : Int) + 8) % 64 != 0) = true := by simp; unfold padZ at hlt; omega
      go_wp2_with (first
        | (at_builtin; refine wp_app rfl (.tmp 19) (.tmp 20) rfl rfl (ho.alloc _) rfl (Byt.new wr [0] _) (by simp; omega) ?_; intro p1 c1 w1 ho1 hb1))
      go_roundw
      case rel => exact ⟨j + 1, p1, c1, by omega, rfl, ho1.cast (padTo_succ xs j), hbw.trans (((Below.refl _ _).alloc (by have := ho.base; omega) _).trans hb1)⟩
      case measure => simp [slLen]; omega
    · obtain rfl : j = padZ n := by omega
      have hd : (((n : Int) + 1 + ((padZ n : Nat) : Int) + 8) % 64 != 0) = false := by simp; unfold padZ; omega
      have HB8 := Lib.hid (be8_small n hn)
      go_wp2_with (first
        | (at_builtin; refine wp_app rfl (.tmp 25) (.tmp 37) rfl rfl (ho.alloc _) rfl (Byt.new wr [0, 0, 0, 0, (n : Int) * 8 / 16777216, (n : Int) * 8 / 65536, (n : Int) * 8 / 256, (n : Int) * 8 % 256] _) (by simp; omega) ?_; intro p1 c1 w1 ho1 hb1))
      go_ret2
      exact RetB.own (ho1.cast (by have := HL.out; rw [HB8.out]; unfold shaPad; rw [this])) (hbw.trans (((Below.refl _ _).alloc (by have := ho.base; omega) _).trans hb1))

theorem refPad_long (p : Option Addr) (n c : Nat) (w : World) (hn : 1000 < n) : Calls Try.prog 16 #[.slice p n c] w (RetB w 1 []) := by
  have hd0 : (1000 : Int) < n := by omega
  go_enter Try.func16, Try.ntmps16
  go_wp2_with fail
  go_ret2
  exact RetB.no w (Below.refl _ _)

set_option maxHeartbeats 1000000 in
theorem law_ShaPads (p : Option Addr) (n c : Nat) (z : List Int) (w : World) (hz : IsRow .u8 w p n c z) :
    Calls Try.prog 4 #[.slice p n c] w fun e w' => e = .returned (.bool true) ∧ Below w.heap.size w w' := by
  obtain ⟨h, hb, _⟩ := Byt.of_isRow hz
  clear hz
  obtain ⟨E, xs, h1, h2⟩ : ∃ (E : Int) (xs : List Int), (∀ w, Byt w p n (z.take n) → Calls Try.prog 15 #[.slice p n c] w (RetB w E xs)) ∧ (∀ w, Byt w p n (z.take n) → Calls Try.prog 16 #[.slice p n c] w (RetB w E xs)) := by
    by_cases hn : n ≤ 1000
    · exact ⟨0, _, fun w h => pad_c p n c _ w h hb hn, fun w h => refPad_c p n c _ w h hb hn⟩
    · exact ⟨1, [], fun w h => pad_long p n c w (by omega), fun w h => refPad_long p n c w (by omega)⟩
  have H1 := Lib.hid h1
  have H2 := Lib.hid h2
  have H := Lib.hid h
  clear h1 h2 h
  go_enter Try.func4, Try.ntmps4
  go_wp2_with fail
  refine (H1.out _ H.out).mono ?_
  rintro e w1 ⟨p1, n1, c1, rfl, hr1, hc1, hb1⟩
  have R1 := Lib.hid hr1
  have hl1 := hr1.len
  clear hr1
  go_wp2_with fail
  refine (H2.out _ (H.out.below hb1)).mono ?_
  rintro e w2 ⟨p2, n2, c2, rfl, hr2, hc2, hb2⟩
  obtain rfl : n1 = n2 := hl1.symm.trans hr2.len
  have R2 := Lib.hid hr2
  clear hr2 hl1
  go_wp2_with (go_at_call 17; refine (same_c p1 p2 n1 c1 c2 xs _ (R1.out.below hb2) R2.out).mono ?_; rintro e w3 ⟨rfl, rfl⟩)
  go_ret
  exact ⟨rfl, by (repeat' (first | exact Below.refl _ _ | assumption | refine bstep ?_ (by assumption) | refine balloc ?_ _ | refine bdrew ?_ | refine bdrewN ?_ _ | refine bset ?_ ?_ _ | (show _ ≤ _; simp; omega) | (simp; done)))⟩
end Go.Proofs.Ytcbjngndlofpfaa
