/- strings.Count, strings.Split, strings.Cut at one byte, over data. -/
import Derived.Test.YtkdfdcodkeclmaaGreatDoorSUtZ
import Derived.Test.YtkdfdcodkeclmaaGreatDoorSSx
import Derived.Test.YtkdfdcodkeclmaaGreatDoorSShelf
namespace Go.Proofs.YtkdfdcodkeclmaaGreatDoor
open Tryz
open Go.RowKit Go.Sort
set_option linter.unusedVariables false
set_option linter.unusedSimpArgs false
set_option maxRecDepth 100000
def cutA (s : ByteArray) (c : UInt8) : ByteArray := if 0 ≤ ixB s c then s.extract 0 (ixB s c).toNat else s
def cutZ (s : ByteArray) (c : UInt8) : ByteArray := if 0 ≤ ixB s c then s.extract ((ixB s c).toNat + 1) s.size else ⟨#[]⟩
theorem ixB_lt (s : ByteArray) (c : UInt8) : ixB s c < s.size := by
 have := ze0 c s.data.toList
 show Lib.indexByte s.data.toList c < ((s.data.size : Nat) : Int)
 rw [← Array.length_toList]
 exact this
theorem zcS (s : ByteArray) (i j : Nat) : (s.extract i j).size = min j s.size - i := by rw [ByteArray.size_extract]
theorem cutA_size (s : ByteArray) (c : UInt8) : (cutA s c).size ≤ s.size := by
 unfold cutA; split
 ·rw [zcS]; omega
 ·exact Nat.le_refl _
theorem cutZ_size (s : ByteArray) (c : UInt8) : (cutZ s c).size ≤ s.size := by
 unfold cutZ; split
 ·rw [zcS]; omega
 ·exact Nat.zero_le _
theorem sliteCut1_s (s : ByteArray) (c : UInt8) (hs : s.size ≤ 9223372036854775807) : Fn prog 113 [.p (.v (.string s)), .p (.v (.string ⟨#[c]⟩))] (.tup [.p (.v (.string (cutA s c))), .p (.v (.string (cutZ s c))), .p (.v (.bool (decide (0 ≤ ixB s c))))]) [] := by
 have hI := zee s c
 have h1 := ixB_ge s c
 have h2 := ixB_lt s c
 have hz : (⟨#[c]⟩ : ByteArray).size = 1 := rfl
 unfold cutA cutZ
 generalize ixB s c = k at *
 by_cases hk : 0 ≤ k
 ·rw [if_pos hk, if_pos hk, decide_eq_true hk]
  obtain ⟨n, rfl⟩ := Int.eq_ofNat_of_zero_le hk
  rw [Int.toNat_natCast]
  refine zaw func113 rfl (qE rfl) fun w0 A => zaa<| tx<| wA rfl<| wA rfl<| wA rfl<| zab<| zaa<| zaa<| tx<| wM rfl<| wM rfl<| yV (fun n => 10 + 1000 * n) (hI) func122 ?_
  refine wA rfl<| zab<| zaa<| tx<| wM rfl<| wP zeC rfl<| zab<| zaf<| zaq _ rfl (fun h => ?_) (fun h => ?_)
  ·refine zaa<| zaB 4 qK<| wM rfl<| wM rfl<| wP (zdK (L := none) (H := (some (_, _))) U9 rfl ⟨qO, (show _ = n by omega)⟩ qO qO rfl) rfl ?_
   refine wM rfl<| wM rfl<| wM rfl<| wP (zbM U9) rfl<| wP (za5 (show _ = ((n + 1 : Nat) : Int) by rw [hz, IntKind.wrap_i64]; omega)) rfl ?_
   refine wP (zdK (L := (some (_, _))) (H := none) U9 ⟨qO, (show _ = n + 1 by omega)⟩ rfl qO qO rfl) rfl ?_
   refine wA rfl<| wA rfl<| wA rfl<| zab ⟨qK, ?_⟩
   refine zai<| zau<| fT (fun o => o) (.tmp _ _ _ _ rfl (.tmp _ _ _ _ rfl (.tmp _ _ _ _ rfl .nil))) ?_ ?_
   ·exact rfl
   ·exact trivial
  ·exact absurd h (by simp [hk])
 ·rw [if_neg hk, if_neg hk, decide_eq_false hk]
  refine zaw func113 rfl (qE rfl) fun w0 A => zaa<| tx<| wA rfl<| wA rfl<| wA rfl<| zab<| zaa<| zaa<| tx<| wM rfl<| wM rfl<| yV (fun n => 10 + 1000 * n) (hI) func122 ?_
  refine wA rfl<| zab<| zaa<| tx<| wM rfl<| wP zeC rfl<| zab<| zaf<| zaq _ rfl (fun h => ?_) (fun h => ?_)
  ·simp at h; omega
  ·refine zae<| zaa<| tx<| wM rfl<| wA rfl<| wA rfl<| wA rfl<| zab<| zai<| fT (fun o => o) (.tmp _ _ _ _ rfl (.tmp _ _ _ _ rfl (.tmp _ _ _ _ rfl .nil))) ?_ ?_
   ·exact rfl
   ·exact trivial
theorem cut1_s (s : ByteArray) (c : UInt8) (hs : s.size ≤ 9223372036854775807) : Fn prog 75 [.p (.v (.string s)), .p (.v (.string ⟨#[c]⟩))] (.tup [.p (.v (.string (cutA s c))), .p (.v (.string (cutZ s c))), .p (.v (.bool (decide (0 ≤ ixB s c))))]) [] := by
 have hI := sliteCut1_s s c hs
 refine zaw func75 rfl (qE rfl) fun w0 A => zaa<| tx<| wA rfl<| wA rfl<| wA rfl<| zab<| zaa<| tx<| wM rfl<| wM rfl<| yV (fun n => 9 + 1000 * n) (hI) func113 ?_
 refine wP (zal rfl) rfl<| wP (zal rfl) rfl<| wP (zal rfl) rfl<| wA rfl<| wA rfl<| wA rfl<| zab<| zai<| fT (fun o => o) (.tmp _ _ _ _ rfl (.tmp _ _ _ _ rfl (.tmp _ _ _ _ rfl .nil))) ?_ ?_
 ·exact rfl
 ·exact trivial
def cntB (s : ByteArray) (c : UInt8) : Nat := Lib.countB s ⟨#[c]⟩
def spl (s : ByteArray) (c : UInt8) : List ByteArray := Lib.splitB ⟨#[c]⟩ 0 (cntB s c) s
theorem zeF (s : ByteArray) (c : UInt8) : (spl s c).length = cntB s c + 1 := Lib.splitB_all ⟨#[c]⟩ (Nat.le_refl 1) 0 _ s rfl
theorem cntB_le (s : ByteArray) (c : UInt8) : cntB s c ≤ s.size := Lib.countB_le ⟨#[c]⟩ (Nat.le_refl 1) s.size s (Nat.le_refl _)
theorem zfn (sep : ByteArray) : ∀ (k : Nat) (s : ByteArray), ∀ t ∈ Lib.splitB sep 0 k s, t.size ≤ s.size
 | 0, s, t, h => by
  simp only [Lib.splitB, List.mem_singleton] at h
  rw [h]; exact Nat.le_refl _
 | k + 1, s, t, h => by
  unfold Lib.splitB at h
  split at h
  ·simp only [List.mem_singleton] at h
   rw [h]; exact Nat.le_refl _
  ·rcases List.mem_cons.1 h with h | h
   ·rw [h, zcS]; omega
   ·have := zfn sep k _ t h
    rw [zcS] at this; omega
theorem spl_size (s : ByteArray) (c : UInt8) : ∀ t ∈ spl s c, t.size ≤ s.size := zfn _ _ _
theorem kitCount (s : ByteArray) (c : UInt8) (w : World) : Calls prog 99 #[.string s, .string ⟨#[c]⟩] w fun e w' => e = .returned (.int .i64 (cntB s c : Nat)) ∧ w' = w := by
 refine (strings_Count_one s c w).mono fun e w' ⟨he, hw⟩ => ⟨?_, hw⟩
 rw [he]
 show _ = Ending.returned (Value.int .i64 ((Lib.count s.data.toList [c] : Nat) : Int))
 rw [Lib.count_one]
 rfl
theorem kitIndex (s : ByteArray) (c : UInt8) (w : World) : Calls prog 91 #[.string s, .string ⟨#[c]⟩] w fun e w' => e = .returned (.int .i64 (Lib.indexB s ⟨#[c]⟩)) ∧ w' = w := by
 refine (strings_Index_one s c w).mono fun e w' ⟨he, hw⟩ => ⟨?_, hw⟩
 rw [he]
 show _ = Ending.returned (Value.int .i64 (Lib.index s.data.toList [c]))
 rw [Lib.index_one]
theorem genSplit1_s (s : ByteArray) (c : UInt8) (hs : s.size < 4294967281) : Fn prog 125 [.p (.v (.string s)), .p (.v (.string ⟨#[c]⟩)), .p (.v (.int .i64 0)), .p (.v (.int .i64 (-1)))] (.row 0) [(0, .row 9 1 (cntB s c + 1) (strs (spl s c)))] := by
 have hle := cntB_le s c
 refine fn_alloc (vs := [.string s, .string ⟨#[c]⟩, .int .i64 0, .int .i64 (-1)]) (us := (spl s c).map .string) rfl (by rw [List.length_map, zeF]) (by simp only [maxLen]; omega) (fun _ _ => strs_rep _) fun w => ?_
 have h := Any.strings_genSplit_core lays221 qK s ⟨#[c]⟩ 0 (-1) (cntB s c + 1) w hs (Nat.le_refl 1) (Nat.zero_le _) (fun x cc _ => kitIndex x c _) (kitCount s c w) qD qD (by
  rw [if_pos (by decide)]
  show _ = min ((cntB s c : Int) + 1) _
  omega)
 rw [Nat.add_sub_cancel] at h
 change Calls prog 125 _ w (fun e w' => e = .returned (.slice (some ⟨w.heap.size, 0, none⟩) (spl s c).length (cntB s c + 1)) ∧ w' = w.alloc (.cells (Lib.cellsOf (spl s c) (cntB s c + 1)) 9)) at h
 rw [zeF, ← zeF s c, Lib.cellsOf_full, zeF] at h
 exact h
theorem split1_s (s : ByteArray) (c : UInt8) (hs : s.size < 4294967281) : Fn prog 94 [.p (.v (.string s)), .p (.v (.string ⟨#[c]⟩))] (.row 0) [(0, .row 9 1 (cntB s c + 1) (strs (spl s c)))] := by
 have hG := genSplit1_s s c hs
 refine zaw func94 rfl (qE rfl) fun w0 A => zaa<| tx<| wA rfl<| zab<| zaa<| tx<| wM rfl<| wM rfl<| zaC (fun n => 7 + 1000 * n) (hG) rfl rfl func125 rfl rfl (by first | rfl | simp [AV.noSl, AV.noSlL, AObj.noSl, PV.isV, strs]) (by first | rfl | simp [AV.noSl, AV.noSlL, AObj.noSl, PV.isV, strs]) rfl rfl rfl (by first | exact trivial | exact ⟨rfl, trivial⟩ | exact ⟨rfl, rfl, trivial⟩ | exact ⟨rfl, rfl, rfl, rfl, rfl, trivial⟩) rfl rfl rfl ?_
 refine wP (zas (r := .row _)) rfl<| zab<| zai<| fT (fun _ => 7) (.tmp _ _ _ _ rfl .nil) ?_ ?_
 ·exact rfl
 ·exact ⟨⟨rfl, rfl⟩, trivial⟩
end Go.Proofs.YtkdfdcodkeclmaaGreatDoor
