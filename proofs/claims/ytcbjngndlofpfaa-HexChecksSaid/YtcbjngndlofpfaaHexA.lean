/- What hex.Bytes, hex.Check, and the references of them, compute. -/
import Derived.Test.YtcbjngndlofpfaaByu
import Derived.Test.YtcbjngndlofpfaaShelf
import Derived.Deep.QuietTactic
import Derived.BigQuiet
namespace Go.Proofs.Ytcbjngndlofpfaa
open Go.RowKit Go.Sort
set_option linter.unusedVariables false

def DIG : ByteArray := ⟨#[48, 49, 50, 51, 52, 53, 54, 55, 56, 57, 97, 98, 99, 100, 101, 102]⟩
/-- the place of a byte among the digits -/
def hx (x : Int) : Int := Lib.indexByte DIG.data.toList x.toNat.toUInt8
theorem ib_c (x : Int) (w : World) : Calls Try.prog 69 #[.string ⟨#[48, 49, 50, 51, 52, 53, 54, 55, 56, 57, 97, 98, 99, 100, 101, 102]⟩, .int .u8 x] w fun e w' => e = .returned (.int .i64 (hx x)) ∧ w' = w :=
  Try.strings_IndexByte _ x w
theorem hx_fin : ∀ n : Fin 256, -1 ≤ Lib.indexByte DIG.data.toList n.val.toUInt8 ∧ Lib.indexByte DIG.data.toList n.val.toUInt8 ≤ 15 := by decide +kernel
theorem hx_bd (x : Int) : -1 ≤ hx x ∧ hx x ≤ 15 := by
  have h := hx_fin ⟨x.toNat % 256, Nat.mod_lt _ (by decide)⟩
  have e : (x.toNat % 256).toUInt8 = x.toNat.toUInt8 := by
    apply UInt8.toNat_inj.1
    show (UInt8.ofNat _).toNat = (UInt8.ofNat _).toNat
    simp only [UInt8.toNat_ofNat']
    omega
  unfold hx
  simp only [e] at h
  exact h

/-- the number of the digit at a place of a string -/
def hv (s : ByteArray) (i : Nat) : Int := hx ((s.data.getD i 0).toNat : Int)
theorem hv_at (s : ByteArray) (i : Nat) (h : i < s.size) : hx ((s[i].toNat : Nat) : Int) = hv s i := by
  unfold hv
  congr 2
  simp [ByteArray.getElem_eq_getElem_data, Array.getD, h]
def hexVals (s : ByteArray) (k : Nat) : List Int := (List.range k).map fun j => 16 * hv s (2 * j) + hv s (2 * j + 1)
theorem hexVals_succ (s : ByteArray) (k : Nat) : hexVals s (k + 1) = hexVals s k ++ [16 * hv s (2 * k) + hv s (2 * k + 1)] := by simp [hexVals, List.range_succ]
theorem hexVals_len (s : ByteArray) (k : Nat) : (hexVals s k).length = k := by simp [hexVals]

def hexGood (s : ByteArray) : Bool := (List.range s.size).all fun i => decide (0 ≤ hv s i)
theorem hexGood_iff (s : ByteArray) : hexGood s = true ↔ ∀ i, i < s.size → 0 ≤ hv s i := by simp [hexGood]
def hexE (s : ByteArray) : Int := if 2000 < s.size then 1 else if s.size % 2 = 0 then (if hexGood s = true then 0 else 3) else 3
def hexR (s : ByteArray) : List Int := if hexE s = 0 then hexVals s (s.size / 2) else []
theorem hexR_B (s : ByteArray) : isB (hexR s) := by
  unfold hexR
  split
  · rename_i h
    have hg : hexGood s = true := by
      unfold hexE at h
      split at h
      · simp at h
      · split at h
        · split at h
          · assumption
          · simp at h
        · simp at h
    have hg' := (hexGood_iff s).1 hg
    intro x hx
    simp [hexVals] at hx
    obtain ⟨j, hj, rfl⟩ := hx
    have h1 := hg' (2 * j) (by omega)
    have h2 := hg' (2 * j + 1) (by omega)
    have h3 : hv s (2 * j) ≤ 15 := (hx_bd _).2
    have h4 : hv s (2 * j + 1) ≤ 15 := (hx_bd _).2
    omega
  · exact isB_nil

theorem bytes_long (s : ByteArray) (w : World) (hs : 2000 < s.size) : Calls Try.prog 48 #[.string s] w (RetB w (hexE s) (hexR s)) := by
  have hE := Lib.hid (show hexE s = 1 by unfold hexE; rw [if_pos hs])
  have hR := Lib.hid (show hexR s = [] by unfold hexR; rw [hE.out]; rfl)
  rw [hE.out, hR.out]
  have hd0 : (2000 : Int) < s.size := by omega
  clear hs
  go_enter Try.func48, Try.ntmps48
  go_wp2_with fail
  go_ret2
  exact RetB.no w (Below.refl _ _)

theorem bytes_odd (s : ByteArray) (w : World) (hs : s.size ≤ 2000) (ho : ¬ s.size % 2 = 0) : Calls Try.prog 48 #[.string s] w (RetB w (hexE s) (hexR s)) := by
  have hE := Lib.hid (show hexE s = 3 by unfold hexE; rw [if_neg (by omega), if_neg ho])
  have hR := Lib.hid (show hexR s = [] by unfold hexR; rw [hE.out]; rfl)
  rw [hE.out, hR.out]
  have hd0 : ((s.size : Nat) : Int) ≤ 2000 := by omega
  have hd1 : (((s.size : Nat) : Int) % 2 != 0) = true := by simp; omega
  clear hs ho
  go_enter Try.func48, Try.ntmps48
  go_wp2_with fail
  go_ret2
  exact RetB.no w (Below.refl _ _)

set_option maxRecDepth 20000 in
set_option maxHeartbeats 2000000 in
theorem bytes_even (s : ByteArray) (w : World) (hs : s.size ≤ 2000) (he : s.size % 2 = 0) : Calls Try.prog 48 #[.string s] w (RetB w (hexE s) (hexR s)) := by
  have hE := Lib.hid (show hexE s = if hexGood s = true then 0 else 3 by unfold hexE; rw [if_neg (by omega), if_pos he])
  have hd0 : ((s.size : Nat) : Int) ≤ 2000 := by omega
  have hd1 : (((s.size : Nat) : Int) % 2 != 0) = false := by simp; omega
  have hmk := fun W => run_make0 (((s.size : Nat) : Int) / 2) (s.size / 2) (by omega) (by omega) W
  have HE := Lib.hid he
  clear he
  go_enter Try.func48, Try.ntmps48
  go_wp2_with fail
  have ho := own_make0 w (s.size / 2) (by omega)
  clear hmk
  go_loopw [4, 5] (fun v i wr => ∃ (k i' : Nat) (q : Option Addr) (d : Nat), Hid (i' = 2 * k) ∧ i' ≤ s.size ∧ i = .int .i64 i' ∧ v = .slice q k d ∧ Own wr w.heap.size q k d (hexVals s k) ∧ Hid (∀ j, j < i' → 0 ≤ hv s j) ∧ Below w.heap.size w wr) (fun _ i _ => s.size - (intOf i).toNat)
  case atStart => exact ⟨0, 0, _, _, rfl, by omega, rfl, rfl, ho, fun j hj => by omega, (Below.refl _ _).alloc (Nat.le_refl _) _⟩
  case round =>
    obtain ⟨k, i, q, d, HI, hi, rfl, rfl, ho, HG, hbw⟩ := hrel
    by_cases hlt : i < s.size
    · have hlt1 : i + 1 < s.size := by have := HI.out; have := HE.out; omega
      have b0 : (i : Int) < s.size := by omega
      have b1 : (i : Int) + 1 < s.size := by omega
      have e1 : IntKind.i64.wrap ((i : Int) + 1) = (i : Int) + 1 := IntWalk.i64_in _ (by omega)
      have e2 : ((i : Int) + 1).toNat = i + 1 := by omega
      have b2 : (0 : Int) ≤ (i : Int) + 1 := by omega
      have H0 := Lib.hid (hv_at s i hlt)
      have H1 := Lib.hid (hv_at s (i + 1) hlt1)
      go_wp2_with fail
      go_quiet ((go_at_call 69; exact Calls.quiet_of_same (ib_c _ _)))
      rw [H0.out, H1.out]
      generalize (s[i]).toNat = ci
      generalize (s[i + 1]).toNat = cj
      clear e1 e2 b2
      have x0 := (hx_bd ((s.data.getD i 0).toNat : Int)).2
      have x1 := (hx_bd ((s.data.getD (i + 1) 0).toNat : Int)).2
      have y0 : hv s i ≤ 15 := x0
      have y1 : hv s (i + 1) ≤ 15 := x1
      clear x0 x1
      by_cases hg : 0 ≤ hv s i ∧ 0 ≤ hv s (i + 1)
      · obtain ⟨g0, g1⟩ := hg
        have hk : k ≤ 1000 := by have := HI.out; omega
        go_wp2_with (first
          | (at_builtin; refine wp_app rfl (.tmp 40) (.tmp 46) rfl rfl ((show Own (wr.drewN nq) w.heap.size q k d (hexVals s k) from ⟨ho.len, ho.le, ho.row, ho.base⟩).alloc _) rfl (Byt.new (wr.drewN nq) [16 * hv s i + hv s (i + 1)] _) (by simp; omega) ?_; intro p1 c1 w1 ho1 hb1))
        go_roundw
        case rel =>
          refine ⟨k + 1, i + 2, p1, c1, ?_, by omega, by go_num, rfl, ho1.cast ?_, ?_, hbw.trans ((below_drewN (Below.refl _ _) nq).trans (((Below.refl _ _).alloc (by have := ho.base; exact this) _).trans hb1))⟩
          · show i + 2 = 2 * (k + 1); have := HI.out; omega
          · rw [hexVals_succ, ← HI.out]
          · intro j hj
            by_cases h1 : j < i
            · exact HG.out j h1
            · rcases (show j = i ∨ j = i + 1 by omega) with rfl | rfl
              · exact g0
              · exact g1
        case measure => simp [intOf]; omega
      · have hbad : ¬ hexGood s = true := fun h => by
          have h' := (hexGood_iff s).1 h
          exact hg ⟨h' i hlt, h' (i + 1) hlt1⟩
        have HX := Lib.hid (show hexE s = 3 ∧ hexR s = [] by
          have h3 : hexE s = 3 := by rw [hE.out, if_neg hbad]
          refine ⟨h3, ?_⟩; unfold hexR; rw [h3]; rfl)
        rcases (show hv s i < 0 ∨ (0 ≤ hv s i ∧ hv s (i + 1) < 0) by omega) with h1 | ⟨h1, h2⟩
        all_goals
          clear hg
          go_wp2_with fail
          go_ret2
          rw [HX.out.1, HX.out.2]
          exact RetB.no w (below_drewN hbw _)
    · obtain rfl : i = s.size := by omega
      have HX := Lib.hid (show hexE s = 0 ∧ hexR s = hexVals s k by
        have h0 : hexE s = 0 := by rw [hE.out, if_pos ((hexGood_iff s).2 HG.out)]
        refine ⟨h0, ?_⟩
        unfold hexR
        rw [if_pos h0]
        congr 1
        have := HI.out
        omega)
      go_wp2_with fail
      go_ret2
      rw [HX.out.1, HX.out.2]
      exact RetB.own ho hbw

theorem bytes_c (s : ByteArray) (w : World) : Calls Try.prog 48 #[.string s] w (RetB w (hexE s) (hexR s)) := by
  by_cases hs : 2000 < s.size
  · exact bytes_long s w hs
  · by_cases he : s.size % 2 = 0
    · exact bytes_even s w (by omega) he
    · exact bytes_odd s w (by omega) he

/-- what Check of a key answers -/
def keyE (s : ByteArray) : Int := if s.size = 64 then hexE s else 1

theorem hexCheck_g (s : ByteArray) : Gives Try.prog 26 #[.string s] (.int .i64 (keyE s)) := by
  intro w
  by_cases h : s.size = 64
  · have hk := Lib.hid (show keyE s = hexE s by unfold keyE; rw [if_pos h])
    have hd : (((s.size : Nat) : Int) != 64) = false := by simp; omega
    clear h
    go_enter Try.func26, Try.ntmps26
    go_wp2_with fail
    refine (bytes_c s _).mono ?_
    rintro e w1 ⟨p, n, c, rfl, _, _, hb⟩
    go_wp2_with fail
    go_ret
    exact ⟨ret_int hk.out.symm, hb⟩
  · have hk := Lib.hid (show keyE s = 1 by unfold keyE; rw [if_neg h])
    have hd : (((s.size : Nat) : Int) != 64) = true := by simp; omega
    clear h
    go_enter Try.func26, Try.ntmps26
    go_wp2_with fail
    go_ret
    exact ⟨ret_int hk.out.symm, Below.refl _ _⟩
end Go.Proofs.Ytcbjngndlofpfaa
