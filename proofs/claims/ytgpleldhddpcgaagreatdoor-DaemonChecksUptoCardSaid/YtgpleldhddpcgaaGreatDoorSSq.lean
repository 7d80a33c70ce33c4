/- bytes.Clone, bytes.Equal, over data; a number as so many bytes. -/
import Derived.Test.YtgpleldhddpcgaaGreatDoorSMa4
import Derived.Test.YtgpleldhddpcgaaGreatDoorSUtZ
import Derived.Test.YtgpleldhddpcgaaGreatDoorSShelf
namespace Go.Proofs.YtgpleldhddpcgaaGreatDoor
open Go.RowKit Go.Sort
set_option linter.unusedVariables false
set_option linter.unusedSimpArgs false
set_option maxRecDepth 100000
theorem or_add (a b i : Nat) (hb : b < 2 ^ i) : (a * 2 ^ i) ||| b = a * 2 ^ i + b := by
 have := Nat.two_pow_add_eq_or_of_lt (i := i) (b := b) hb a
 rw [Nat.mul_comm] at this
 exact this.symm
theorem u32_or (a b i : Nat) (hb : b < 2 ^ i) (h : a * 2 ^ i + b < 4294967296) : bits .or .u32 ((a * 2 ^ i : Nat) : Int) (b : Int) = ((a * 2 ^ i + b : Nat) : Int) := by
 have h1 : (BitVec.ofInt 32 ((a * 2 ^ i : Nat) : Int)).toNat = a * 2 ^ i := by
  rw [BitVec.ofInt_natCast, BitVec.toNat_ofNat]; exact Nat.mod_eq_of_lt (by omega)
 have h2 : (BitVec.ofInt 32 (b : Int)).toNat = b := by
  rw [BitVec.ofInt_natCast, BitVec.toNat_ofNat]; exact Nat.mod_eq_of_lt (by omega)
 show IntKind.u32.wrap ((BitVec.ofInt 32 ((a * 2 ^ i : Nat) : Int) ||| BitVec.ofInt 32 (b : Int)).toNat : Int) = _
 rw [BitVec.toNat_or, h1, h2, or_add a b i hb, IntWalk.u32_in _ (by omega)]
end Go.Proofs.YtgpleldhddpcgaaGreatDoor
/- strings.Index and strings.Contains of one letter, over data. -/
namespace Go.Proofs.YtgpleldhddpcgaaGreatDoor
open Go.RowKit Go.Sort
set_option linter.unusedVariables false
set_option linter.unusedSimpArgs false
set_option maxRecDepth 100000
/-- where a letter stands first -/
def ixB (s : ByteArray) (c : UInt8) : Int := Lib.indexByte s.data.toList c
theorem zfw (c : UInt8) : ∀ l : List UInt8, -1 ≤ Lib.indexByte l c
 | [] => by simp [Lib.indexByte]
 | b :: l => by
  have := zfw c l
  simp only [Lib.indexByte]
  split
  ·omega
  ·split
   ·omega
   ·omega
theorem ixB_ge (s : ByteArray) (c : UInt8) : -1 ≤ ixB s c := zfw c _
theorem zfv (c : UInt8) : ∀ l : List UInt8, Lib.indexByte l c < l.length
 | [] => by simp [Lib.indexByte]
 | b :: l => by
  have := zfv c l
  simp only [Lib.indexByte, List.length_cons]
  split
  ·omega
  ·split
   ·omega
   ·omega
theorem sliteIB_s (s : ByteArray) (c : UInt8) : Fn Tryz.prog 161 [.p (.v (.string s)), .p (.v (.int .u8 (c.toNat : Nat)))] (.p (.v (.int .i64 (ixB s c)))) [] := by
 have h := zhk (P := Tryz.prog) (f := 161) [.string s, .int .u8 (c.toNat : Nat)] (r := .int .i64 (ixB s c)) rfl fun w => by
  have := Tryz.stringslite_IndexByte s (c.toNat : Nat) w
  rw [show ((c.toNat : Nat) : Int).toNat.toUInt8 = c by simp] at this
  exact this
 exact h
set_option maxHeartbeats 1000000 in
theorem zeV (s : ByteArray) (c : UInt8) : Fn Tryz.prog 156 [.p (.v (.string s)), .p (.v (.string ⟨#[c]⟩))] (.p (.v (.int .i64 (ixB s c)))) [] := by
 have hz : (⟨#[c]⟩ : ByteArray).size = 1 := rfl
 have hI := sliteIB_s s c
 refine zap Tryz.func156 rfl (Nat.le_of_ble_eq_true rfl) fun w0 A => ?_
 refine zaa ?_
 refine tx ?_
 refine yA ?_
 refine zab ?_
 refine zaa ?_
 refine tx ?_
 refine yM ?_
 refine yP (zbF Tryz.underlying9) ?_
 refine yA ?_
 refine zab ?_
 refine zaa (zaj (zaa ?_))
 refine tx ?_
 refine yM ?_
 refine yP zaF ?_
 refine yM ?_
 refine mb2 _ rfl rfl (fun hb => (zaq (r := .p _))) (fun _ => trivial) ?_
 refine mb2 _ rfl rfl (fun hb => (zaq (r := .p _))) (fun _ => trivial) ?_
 refine mb2 _ rfl rfl (fun hb => zbQ) (fun _ => trivial) ?_
 refine zac (a_or (by first | exact id | (simp; done) | grind)) rfl rfl ?_
 refine yA ?_
 refine zab ?_
 refine zae ?_
 refine zah _ rfl (fun h => ?_) (fun h => ?_)
 ·have hs : s = ⟨#[c]⟩ := by
   rw [hz] at h
   simp at h
   exact h.symm
  have h0 : ixB s c = 0 := by rw [hs]; simp [ixB, Lib.indexByte]
  rw [h0]
  refine zaa ?_
  refine tx ?_
  refine yA ?_
  refine zab ?_
  refine zaf (zaK (zam ?_))
  refine yT ?_ ?_
  ·exact rfl
  ·exact trivial
 clear h
 refine zaa ?_
 refine tx ?_
 refine yM ?_
 refine yP zaF ?_
 refine yA ?_
 refine zab ?_
 refine zae ?_
 refine zah _ rfl (fun h => ?_) (fun h => ?_)
 ·refine zaa ?_
  refine tx ?_
  refine yM ?_
  refine yM ?_
  refine zac (zcq Tryz.underlying9 (by omega) (show _ = some ((c.toNat : Nat) : Int) from rfl)) rfl rfl ?_
  refine yV (fun n => 30 + 1000 * n) (hI) Tryz.func161 ?_
  refine yA ?_
  refine zab ?_
  refine zaf (zaK (zam ?_))
  refine yT ?_ ?_
  ·exact rfl
  ·exact trivial
 ·rw [hz] at h; simp at h
theorem index1_s (s : ByteArray) (c : UInt8) : Fn Tryz.prog 123 [.p (.v (.string s)), .p (.v (.string ⟨#[c]⟩))] (.p (.v (.int .i64 (ixB s c)))) [] := by
 have hI := zeV s c
 refine zap Tryz.func123 rfl (Nat.le_of_ble_eq_true rfl) fun w0 A => ?_
 refine zaa ?_
 refine tx ?_
 refine yA ?_
 refine zab ?_
 refine zaa ?_
 refine tx ?_
 refine yM ?_
 refine yM ?_
 refine yV (fun n => 7 + 1000 * n) (hI) Tryz.func156 ?_
 refine yA ?_
 refine zab ?_
 refine zaf ?_
 refine yT ?_ ?_
 ·exact rfl
 ·exact trivial
end Go.Proofs.YtgpleldhddpcgaaGreatDoor
/- strings.Count, strings.Split, strings.Cut at one byte, over data. -/
namespace Go.Proofs.YtgpleldhddpcgaaGreatDoor
open Go.RowKit Go.Sort
set_option linter.unusedVariables false
set_option linter.unusedSimpArgs false
set_option maxRecDepth 100000
def cutA (s : ByteArray) (c : UInt8) : ByteArray := if 0 ≤ ixB s c then s.extract 0 (ixB s c).toNat else s
def cutZ (s : ByteArray) (c : UInt8) : ByteArray := if 0 ≤ ixB s c then s.extract ((ixB s c).toNat + 1) s.size else ⟨#[]⟩
theorem ixB_lt (s : ByteArray) (c : UInt8) : ixB s c < s.size := by
 have := zfv c s.data.toList
 show Lib.indexByte s.data.toList c < ((s.data.size : Nat) : Int)
 rw [← Array.length_toList]
 exact this
theorem zc8 (s : ByteArray) (i j : Nat) : (s.extract i j).size = min j s.size - i := by rw [ByteArray.size_extract]
theorem cutA_size (s : ByteArray) (c : UInt8) : (cutA s c).size ≤ s.size := by
 unfold cutA; split
 ·rw [zc8]; omega
 ·exact Nat.le_refl _
theorem cutZ_size (s : ByteArray) (c : UInt8) : (cutZ s c).size ≤ s.size := by
 unfold cutZ; split
 ·rw [zc8]; omega
 ·exact Nat.zero_le _
theorem sliteCut1_s (s : ByteArray) (c : UInt8) (hs : s.size ≤ 9223372036854775807) : Fn Tryz.prog 152 [.p (.v (.string s)), .p (.v (.string ⟨#[c]⟩))] (.tup [.p (.v (.string (cutA s c))), .p (.v (.string (cutZ s c))), .p (.v (.bool (decide (0 ≤ ixB s c))))]) [] := by
 have hI := zeV s c
 have h1 := ixB_ge s c
 have h2 := ixB_lt s c
 have hz : (⟨#[c]⟩ : ByteArray).size = 1 := rfl
 unfold cutA cutZ
 generalize ixB s c = k at *
 by_cases hk : 0 ≤ k
 ·rw [if_pos hk, if_pos hk, decide_eq_true hk]
  obtain ⟨n, rfl⟩ := Int.eq_ofNat_of_zero_le hk
  rw [Int.toNat_natCast]
  refine zap Tryz.func152 rfl (Nat.le_of_ble_eq_true rfl) fun w0 A => ?_
  refine zaa ?_
  refine tx ?_
  refine yA ?_
  refine yA ?_
  refine yA ?_
  refine zab ?_
  refine zaa (zaa ?_)
  refine tx ?_
  refine yM ?_
  refine yM ?_
  refine yV (fun n => 10 + 1000 * n) (hI) Tryz.func156 ?_
  refine yA ?_
  refine zab ?_
  refine zaa ?_
  refine tx ?_
  refine yM ?_
  refine yP zeb ?_
  refine zab ?_
  refine zae ?_
  refine zah _ rfl (fun h => ?_) (fun h => ?_)
  ·refine zaa ?_
   refine zav 4 (by kernel_rfl) ?_
   refine yM ?_
   refine yM ?_
   refine zac (zej (L := none) (H := (some (_, _))) Tryz.underlying9 rfl ⟨by omega, (show _ = n by omega)⟩ (by omega) (by omega) rfl) rfl rfl ?_
   refine yM ?_
   refine yM ?_
   refine yM ?_
   refine yP (zbF Tryz.underlying9) ?_
   refine zac (za4 (show _ = ((n + 1 : Nat) : Int) by rw [hz, IntKind.wrap_i64]; omega)) rfl rfl ?_
   refine zac (zej (L := (some (_, _))) (H := none) Tryz.underlying9 ⟨by omega, (show _ = n + 1 by omega)⟩ rfl (by omega) (by omega) rfl) rfl rfl ?_
   refine yA ?_
   refine yA ?_
   refine yA ?_
   refine zab ⟨by kernel_rfl, ?_⟩
   refine zaf (zam ?_)
   refine fT (fun o => o) (.tmp _ _ _ _ rfl (.tmp _ _ _ _ rfl (.tmp _ _ _ _ rfl .nil))) ?_ ?_
   ·exact rfl
   ·exact trivial
  ·exact absurd h (by simp [hk])
 ·rw [if_neg hk, if_neg hk, decide_eq_false hk]
  refine zap Tryz.func152 rfl (Nat.le_of_ble_eq_true rfl) fun w0 A => ?_
  refine zaa ?_
  refine tx ?_
  refine yA ?_
  refine yA ?_
  refine yA ?_
  refine zab ?_
  refine zaa (zaa ?_)
  refine tx ?_
  refine yM ?_
  refine yM ?_
  refine yV (fun n => 10 + 1000 * n) (hI) Tryz.func156 ?_
  refine yA ?_
  refine zab ?_
  refine zaa ?_
  refine tx ?_
  refine yM ?_
  refine yP zeb ?_
  refine zab ?_
  refine zae ?_
  refine zah _ rfl (fun h => ?_) (fun h => ?_)
  ·simp at h; omega
  ·refine zad (zaa ?_)
   refine tx ?_
   refine yM ?_
   refine yA ?_
   refine yA ?_
   refine yA ?_
   refine zab ?_
   refine zaf ?_
   refine fT (fun o => o) (.tmp _ _ _ _ rfl (.tmp _ _ _ _ rfl (.tmp _ _ _ _ rfl .nil))) ?_ ?_
   ·exact rfl
   ·exact trivial
theorem cut1_s (s : ByteArray) (c : UInt8) (hs : s.size ≤ 9223372036854775807) : Fn Tryz.prog 118 [.p (.v (.string s)), .p (.v (.string ⟨#[c]⟩))] (.tup [.p (.v (.string (cutA s c))), .p (.v (.string (cutZ s c))), .p (.v (.bool (decide (0 ≤ ixB s c))))]) [] := by
 have hI := sliteCut1_s s c hs
 refine zap Tryz.func118 rfl (Nat.le_of_ble_eq_true rfl) fun w0 A => ?_
 refine zaa ?_
 refine tx ?_
 refine yA ?_
 refine yA ?_
 refine yA ?_
 refine zab ?_
 refine zaa ?_
 refine tx ?_
 refine yM ?_
 refine yM ?_
 refine yV (fun n => 9 + 1000 * n) (hI) Tryz.func152 ?_
 refine yP (zar rfl) ?_
 refine yP (zar rfl) ?_
 refine yP (zar rfl) ?_
 refine yA ?_
 refine yA ?_
 refine yA ?_
 refine zab ?_
 refine zaf ?_
 refine fT (fun o => o) (.tmp _ _ _ _ rfl (.tmp _ _ _ _ rfl (.tmp _ _ _ _ rfl .nil))) ?_ ?_
 ·exact rfl
 ·exact trivial
def cntB (s : ByteArray) (c : UInt8) : Nat := Lib.countB s ⟨#[c]⟩
def spl (s : ByteArray) (c : UInt8) : List ByteArray := Lib.splitB ⟨#[c]⟩ 0 (cntB s c) s
theorem zfb (s : ByteArray) (c : UInt8) : (spl s c).length = cntB s c + 1 := Lib.splitB_all ⟨#[c]⟩ (Nat.le_refl 1) 0 _ s rfl
theorem cntB_le (s : ByteArray) (c : UInt8) : cntB s c ≤ s.size := Lib.countB_le ⟨#[c]⟩ (Nat.le_refl 1) s.size s (Nat.le_refl _)
theorem zfX (sep : ByteArray) : ∀ (k : Nat) (s : ByteArray), ∀ t ∈ Lib.splitB sep 0 k s, t.size ≤ s.size
 | 0, s, t, h => by
  simp only [Lib.splitB, List.mem_singleton] at h
  rw [h]; exact Nat.le_refl _
 | k + 1, s, t, h => by
  unfold Lib.splitB at h
  split at h
  ·simp only [List.mem_singleton] at h
   rw [h]; exact Nat.le_refl _
  ·rcases List.mem_cons.1 h with h | h
   ·rw [h, zc8]; omega
   ·have := zfX sep k _ t h
    rw [zc8] at this; omega
theorem spl_size (s : ByteArray) (c : UInt8) : ∀ t ∈ spl s c, t.size ≤ s.size := zfX _ _ _
theorem kitCount (s : ByteArray) (c : UInt8) (w : World) : Calls Tryz.prog 122 #[.string s, .string ⟨#[c]⟩] w fun e w' => e = .returned (.int .i64 (cntB s c : Nat)) ∧ w' = w := by
 refine (Tryz.strings_Count_one s c w).mono fun e w' ⟨he, hw⟩ => ⟨?_, hw⟩
 rw [he]
 show _ = Ending.returned (Value.int .i64 ((Lib.count s.data.toList [c] : Nat) : Int))
 rw [Lib.count_one]
 rfl
theorem kitIndex (s : ByteArray) (c : UInt8) (w : World) : Calls Tryz.prog 123 #[.string s, .string ⟨#[c]⟩] w fun e w' => e = .returned (.int .i64 (Lib.indexB s ⟨#[c]⟩)) ∧ w' = w := by
 refine (Tryz.strings_Index_one s c w).mono fun e w' ⟨he, hw⟩ => ⟨?_, hw⟩
 rw [he]
 show _ = Ending.returned (Value.int .i64 (Lib.index s.data.toList [c]))
 rw [Lib.index_one]
theorem genSplit1_s (s : ByteArray) (c : UInt8) (hs : s.size < 4294967281) : Fn Tryz.prog 151 [.p (.v (.string s)), .p (.v (.string ⟨#[c]⟩)), .p (.v (.int .i64 0)), .p (.v (.int .i64 (-1)))] (.row 0) [(0, .row 9 1 (cntB s c + 1) (strs (spl s c)))] := by
 have hle := cntB_le s c
 refine fn_alloc (vs := [.string s, .string ⟨#[c]⟩, .int .i64 0, .int .i64 (-1)]) (us := (spl s c).map .string) rfl (by rw [List.length_map, zfb]) (by simp only [maxLen]; omega) (fun _ _ => strs_rep _) fun w => ?_
 have h := Any.strings_genSplit_core Tryz.lays221 (by kernel_rfl) s ⟨#[c]⟩ 0 (-1) (cntB s c + 1) w hs (Nat.le_refl 1) (Nat.zero_le _) (fun x cc _ => kitIndex x c _) (kitCount s c w) (by decide) (by decide) (by
  rw [if_pos (by decide)]
  show _ = min ((cntB s c : Int) + 1) _
  omega)
 rw [Nat.add_sub_cancel] at h
 change Calls Tryz.prog 151 _ w (fun e w' => e = .returned (.slice (some ⟨w.heap.size, 0, none⟩) (spl s c).length (cntB s c + 1)) ∧ w' = w.alloc (.cells (Lib.cellsOf (spl s c) (cntB s c + 1)) 9)) at h
 rw [zfb, ← zfb s c, Lib.cellsOf_full, zfb] at h
 exact h
theorem split1_s (s : ByteArray) (c : UInt8) (hs : s.size < 4294967281) : Fn Tryz.prog 117 [.p (.v (.string s)), .p (.v (.string ⟨#[c]⟩))] (.row 0) [(0, .row 9 1 (cntB s c + 1) (strs (spl s c)))] := by
 have hG := genSplit1_s s c hs
 refine zap Tryz.func117 rfl (Nat.le_of_ble_eq_true rfl) fun w0 A => ?_
 refine zaa ?_
 refine tx ?_
 refine yA ?_
 refine zab ?_
 refine zaa ?_
 refine tx ?_
 refine yM ?_
 refine yM ?_
 refine zcv (fun n => 7 + 1000 * n) (hG) rfl rfl Tryz.func151 rfl rfl (by first | rfl | simp [AV.noSl, AV.noSlL, AObj.noSl, PV.isV, strs]) (by first | rfl | simp [AV.noSl, AV.noSlL, AObj.noSl, PV.isV, strs]) rfl rfl rfl (by first | exact trivial | exact ⟨rfl, trivial⟩ | exact ⟨rfl, rfl, trivial⟩ | exact ⟨rfl, rfl, rfl, rfl, rfl, trivial⟩) rfl rfl rfl ?_
 refine yP (zas (r := .row _)) ?_
 refine zab ?_
 refine zaf ?_
 refine fT (fun _ => 7) (.tmp _ _ _ _ rfl .nil) ?_ ?_
 ·exact rfl
 ·exact ⟨⟨rfl, rfl⟩, trivial⟩
end Go.Proofs.YtgpleldhddpcgaaGreatDoor
