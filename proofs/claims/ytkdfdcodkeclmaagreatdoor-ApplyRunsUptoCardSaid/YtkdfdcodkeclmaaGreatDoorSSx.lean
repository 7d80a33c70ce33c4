/- bytes.Clone, bytes.Equal, over data; a number as so many bytes. -/
import Derived.Test.YtkdfdcodkeclmaaGreatDoorSMa4
import Derived.Test.YtkdfdcodkeclmaaGreatDoorSNuZ
import Derived.Test.YtkdfdcodkeclmaaGreatDoorSShelf
namespace Go.Proofs.YtkdfdcodkeclmaaGreatDoor
open Go.RowKit Go.Sort
set_option linter.unusedVariables false
set_option linter.unusedSimpArgs false
set_option maxRecDepth 100000
theorem or_add (a b i : Nat) (hb : b < 2 ^ i) : (a * 2 ^ i) ||| b = a * 2 ^ i + b := by
 have := Nat.two_pow_add_eq_or_of_lt (i := i) (b := b) hb a
 rw [Nat.mul_comm] at this
 exact this.symm
theorem u32_or (a b i : Nat) (hb : b < 2 ^ i) (h : a * 2 ^ i + b < 4294967296) : bits .or .u32 ((a * 2 ^ i : Nat) : Int) (b : Int) = ((a * 2 ^ i + b : Nat) : Int) := by
 have h1 : (BitVec.ofInt 32 ((a * 2 ^ i : Nat) : Int)).toNat = a * 2 ^ i := by
  rw [BitVec.ofInt_natCast, BitVec.toNat_ofNat]; exact Nat.mod_eq_of_lt (by omega)
 have h2 : (BitVec.ofInt 32 (b : Int)).toNat = b := by
  rw [BitVec.ofInt_natCast, BitVec.toNat_ofNat]; exact Nat.mod_eq_of_lt (by omega)
 show IntKind.u32.wrap ((BitVec.ofInt 32 ((a * 2 ^ i : Nat) : Int) ||| BitVec.ofInt 32 (b : Int)).toNat : Int) = _
 rw [BitVec.toNat_or, h1, h2, or_add a b i hb, IntWalk.u32_in _ (by omega)]
end Go.Proofs.YtkdfdcodkeclmaaGreatDoor
/- strings.Index and strings.Contains of one letter, over data. -/
namespace Go.Proofs.YtkdfdcodkeclmaaGreatDoor
open Tryz
open Go.RowKit Go.Sort
set_option linter.unusedVariables false
set_option linter.unusedSimpArgs false
set_option maxRecDepth 100000
/-- where a letter stands first -/
def ixB (s : ByteArray) (c : UInt8) : Int := Lib.indexByte s.data.toList c
theorem ze1 (c : UInt8) : ∀ l : List UInt8, -1 ≤ Lib.indexByte l c
 | [] => by simp [Lib.indexByte]
 | b :: l => by
  have := ze1 c l
  simp only [Lib.indexByte]
  split
  ·omega
  ·split
   ·omega
   ·omega
theorem ixB_ge (s : ByteArray) (c : UInt8) : -1 ≤ ixB s c := ze1 c _
theorem ze0 (c : UInt8) : ∀ l : List UInt8, Lib.indexByte l c < l.length
 | [] => by simp [Lib.indexByte]
 | b :: l => by
  have := ze0 c l
  simp only [Lib.indexByte, List.length_cons]
  split
  ·omega
  ·split
   ·omega
   ·omega
theorem sliteIB_s (s : ByteArray) (c : UInt8) : Fn prog 130 [.p (.v (.string s)), .p (.v (.int .u8 (c.toNat : Nat)))] (.p (.v (.int .i64 (ixB s c)))) [] := by
 have h := fn_plain (P := prog) (f := 130) [.string s, .int .u8 (c.toNat : Nat)] (r := .int .i64 (ixB s c)) rfl fun w => by
  have := stringslite_IndexByte s (c.toNat : Nat) w
  rw [show ((c.toNat : Nat) : Int).toNat.toUInt8 = c by simp] at this
  exact this
 exact h
set_option maxHeartbeats 1000000 in
theorem zee (s : ByteArray) (c : UInt8) : Fn prog 122 [.p (.v (.string s)), .p (.v (.string ⟨#[c]⟩))] (.p (.v (.int .i64 (ixB s c)))) [] := by
 have hz : (⟨#[c]⟩ : ByteArray).size = 1 := rfl
 have hI := sliteIB_s s c
 refine zaw func122 rfl (qE rfl) fun w0 A => zaa<| tx<| wA rfl<| zab<| zaa<| tx<| wM rfl<| wP (zbM U9) rfl<| wA rfl<| zab<| zaa<| zak<| zaa<| tx<| wM rfl<| wP zaz rfl<| wM rfl<| mb2 _ rfl rfl (fun hb => (zam (r := .p _))) (fun _ => trivial) ?_
 refine mb2 _ rfl rfl (fun hb => (zam (r := .p _))) (fun _ => trivial) ?_
 refine mb2 _ rfl rfl (fun hb => zeB) (fun _ => trivial) ?_
 refine wP (a_or (by first | exact id | (simp; done) | grind)) rfl ?_
 refine wA rfl<| zab<| zaf<| zaq _ rfl (fun h => ?_) (fun h => ?_)
 ·have hs : s = ⟨#[c]⟩ := by
   rw [hz] at h
   simp at h
   exact h.symm
  have h0 : ixB s c = 0 := by rw [hs]; simp [ixB, Lib.indexByte]
  rw [h0]
  refine zaa<| tx<| wA rfl<| zab<| zai<| zaU<| zau<| yT ?_ ?_
  ·exact rfl
  ·exact trivial
 clear h
 refine zaa<| tx<| wM rfl<| wP zaz rfl<| wA rfl<| zab<| zaf<| zaq _ rfl (fun h => ?_) (fun h => ?_)
 ·refine zaa<| tx<| wM rfl<| wM rfl<| wP (zcl U9 qO (show _ = some ((c.toNat : Nat) : Int) from rfl)) rfl<| yV (fun n => 30 + 1000 * n) (hI) func130 ?_
  refine wA rfl<| zab<| zai<| zaU<| zau<| yT ?_ ?_
  ·exact rfl
  ·exact trivial
 ·rw [hz] at h; simp at h
theorem index1_s (s : ByteArray) (c : UInt8) : Fn prog 91 [.p (.v (.string s)), .p (.v (.string ⟨#[c]⟩))] (.p (.v (.int .i64 (ixB s c)))) [] := by
 have hI := zee s c
 refine zaw func91 rfl (qE rfl) fun w0 A => zaa<| tx<| wA rfl<| zab<| zaa<| tx<| wM rfl<| wM rfl<| yV (fun n => 7 + 1000 * n) (hI) func122 ?_
 refine wA rfl<| zab<| zai<| yT ?_ ?_
 ·exact rfl
 ·exact trivial
end Go.Proofs.YtkdfdcodkeclmaaGreatDoor
