/- batch.words, batch.value, the reference's settingNames and SettingLine, kind by kind, over data. (Printed by wip/mkbt3.py.) -/
import Derived.Test.YtkdfdcodkeclmaaGreatDoorSBt2
import Derived.Test.YtkdfdcodkeclmaaGreatDoorSFz
namespace Go.Proofs.YtkdfdcodkeclmaaGreatDoor
open Tryz
open Go.RowKit Go.Sort
set_option linter.unusedVariables false
set_option linter.unusedSimpArgs false
set_option maxRecDepth 100000
def W0 : ByteArray := ⟨#[]⟩
def W1 : ByteArray := ⟨#[112, 114, 105, 118, 97, 116, 101, 95, 107, 101, 121]⟩
def W2 : ByteArray := ⟨#[108, 105, 115, 116, 101, 110, 95, 112, 111, 114, 116]⟩
def W3 : ByteArray := ⟨#[114, 101, 112, 108, 97, 99, 101, 95, 112, 101, 101, 114, 115]⟩
def W4 : ByteArray := ⟨#[112, 117, 98, 108, 105, 99, 95, 107, 101, 121]⟩
def W5 : ByteArray := ⟨#[114, 101, 109, 111, 118, 101]⟩
def W6 : ByteArray := ⟨#[112, 114, 101, 115, 104, 97, 114, 101, 100, 95, 107, 101, 121]⟩
def W7 : ByteArray := ⟨#[101, 110, 100, 112, 111, 105, 110, 116]⟩
def W8 : ByteArray := ⟨#[112, 101, 114, 115, 105, 115, 116, 101, 110, 116, 95, 107, 101, 101, 112, 97, 108, 105, 118, 101, 95, 105, 110, 116, 101, 114, 118, 97, 108]⟩
def W9 : ByteArray := ⟨#[114, 101, 112, 108, 97, 99, 101, 95, 97, 108, 108, 111, 119, 101, 100, 95, 105, 112, 115]⟩
def W10 : ByteArray := ⟨#[97, 108, 108, 111, 119, 101, 100, 95, 105, 112]⟩
def TRUES : ByteArray := ⟨#[116, 114, 117, 101]⟩
def WORDS : List ByteArray := [W0, W1, W2, W3, W4, W5, W6, W7, W8, W9, W10]
def WORDSA : List AV := [.p (.v (.string W0)), .p (.v (.string W1)), .p (.v (.string W2)), .p (.v (.string W3)), .p (.v (.string W4)), .p (.v (.string W5)), .p (.v (.string W6)), .p (.v (.string W7)), .p (.v (.string W8)), .p (.v (.string W9)), .p (.v (.string W10))]
def za4 : List PV := [.v (.string W0), .v (.string W1), .v (.string W2), .v (.string W3), .v (.string W4), .v (.string W5), .v (.string W6), .v (.string W7), .v (.string W8), .v (.string W9), .v (.string W10)]
def word (k : Int) : ByteArray := WORDS.getD k.toNat ⟨#[]⟩
theorem word_at {k : Int} (h0 : 0 ≤ k) (h1 : k < 11) : WORDSA[k.toNat * 1]? = some (.p (.v (.string (word k)))) := by
 have : k = 0 ∨ k = 1 ∨ k = 2 ∨ k = 3 ∨ k = 4 ∨ k = 5 ∨ k = 6 ∨ k = 7 ∨ k = 8 ∨ k = 9 ∨ k = 10 := by omega
 rcases this with rfl | rfl | rfl | rfl | rfl | rfl | rfl | rfl | rfl | rfl | rfl <;> rfl
theorem words_s : Fn prog 96 [] (.agg WORDSA) [] := by
 show Fn prog _ [] (.agg [.p (.v (.string ⟨#[]⟩)), .p (.v (.string ⟨#[112, 114, 105, 118, 97, 116, 101, 95, 107, 101, 121]⟩)), .p (.v (.string ⟨#[108, 105, 115, 116, 101, 110, 95, 112, 111, 114, 116]⟩)), .p (.v (.string ⟨#[114, 101, 112, 108, 97, 99, 101, 95, 112, 101, 101, 114, 115]⟩)), .p (.v (.string ⟨#[112, 117, 98, 108, 105, 99, 95, 107, 101, 121]⟩)), .p (.v (.string ⟨#[114, 101, 109, 111, 118, 101]⟩)), .p (.v (.string ⟨#[112, 114, 101, 115, 104, 97, 114, 101, 100, 95, 107, 101, 121]⟩)), .p (.v (.string ⟨#[101, 110, 100, 112, 111, 105, 110, 116]⟩)), .p (.v (.string ⟨#[112, 101, 114, 115, 105, 115, 116, 101, 110, 116, 95, 107, 101, 101, 112, 97, 108, 105, 118, 101, 95, 105, 110, 116, 101, 114, 118, 97, 108]⟩)), .p (.v (.string ⟨#[114, 101, 112, 108, 97, 99, 101, 95, 97, 108, 108, 111, 119, 101, 100, 95, 105, 112, 115]⟩)), .p (.v (.string ⟨#[97, 108, 108, 111, 119, 101, 100, 95, 105, 112]⟩))]) []
 refine fnI fun w0 A => ?_
 refine G [6] ?_
 refine zaa (a_buildA underlying137 zr137 rfl sz9 rfl) rfl rfl ?_
 refine G [3, 9, 0] ?_
 exact yE
theorem zcr : Fn prog 101 [] (.p (.sl 11 1 za4)) [] := by
 show Fn prog _ [] (.p (.sl 11 1 [.v (.string ⟨#[]⟩), .v (.string ⟨#[112, 114, 105, 118, 97, 116, 101, 95, 107, 101, 121]⟩), .v (.string ⟨#[108, 105, 115, 116, 101, 110, 95, 112, 111, 114, 116]⟩), .v (.string ⟨#[114, 101, 112, 108, 97, 99, 101, 95, 112, 101, 101, 114, 115]⟩), .v (.string ⟨#[112, 117, 98, 108, 105, 99, 95, 107, 101, 121]⟩), .v (.string ⟨#[114, 101, 109, 111, 118, 101]⟩), .v (.string ⟨#[112, 114, 101, 115, 104, 97, 114, 101, 100, 95, 107, 101, 121]⟩), .v (.string ⟨#[101, 110, 100, 112, 111, 105, 110, 116]⟩), .v (.string ⟨#[112, 101, 114, 115, 105, 115, 116, 101, 110, 116, 95, 107, 101, 101, 112, 97, 108, 105, 118, 101, 95, 105, 110, 116, 101, 114, 118, 97, 108]⟩), .v (.string ⟨#[114, 101, 112, 108, 97, 99, 101, 95, 97, 108, 108, 111, 119, 101, 100, 95, 105, 112, 115]⟩), .v (.string ⟨#[97, 108, 108, 111, 119, 101, 100, 95, 105, 112]⟩)])) []
 refine fnI fun w0 A => ?_
 refine G [6] ?_
 refine zac (xs := [.p (.v (.string ⟨#[]⟩)), .p (.v (.string ⟨#[112, 114, 105, 118, 97, 116, 101, 95, 107, 101, 121]⟩)), .p (.v (.string ⟨#[108, 105, 115, 116, 101, 110, 95, 112, 111, 114, 116]⟩)), .p (.v (.string ⟨#[114, 101, 112, 108, 97, 99, 101, 95, 112, 101, 101, 114, 115]⟩)), .p (.v (.string ⟨#[112, 117, 98, 108, 105, 99, 95, 107, 101, 121]⟩)), .p (.v (.string ⟨#[114, 101, 109, 111, 118, 101]⟩)), .p (.v (.string ⟨#[112, 114, 101, 115, 104, 97, 114, 101, 100, 95, 107, 101, 121]⟩)), .p (.v (.string ⟨#[101, 110, 100, 112, 111, 105, 110, 116]⟩)), .p (.v (.string ⟨#[112, 101, 114, 115, 105, 115, 116, 101, 110, 116, 95, 107, 101, 101, 112, 97, 108, 105, 118, 101, 95, 105, 110, 116, 101, 114, 118, 97, 108]⟩)), .p (.v (.string ⟨#[114, 101, 112, 108, 97, 99, 101, 95, 97, 108, 108, 111, 119, 101, 100, 95, 105, 112, 115]⟩)), .p (.v (.string ⟨#[97, 108, 108, 111, 119, 101, 100, 95, 105, 112]⟩))]) (zan (es := [.p (.v (.string ⟨#[]⟩)), .p (.v (.string ⟨#[112, 114, 105, 118, 97, 116, 101, 95, 107, 101, 121]⟩)), .p (.v (.string ⟨#[108, 105, 115, 116, 101, 110, 95, 112, 111, 114, 116]⟩)), .p (.v (.string ⟨#[114, 101, 112, 108, 97, 99, 101, 95, 112, 101, 101, 114, 115]⟩)), .p (.v (.string ⟨#[112, 117, 98, 108, 105, 99, 95, 107, 101, 121]⟩)), .p (.v (.string ⟨#[114, 101, 109, 111, 118, 101]⟩)), .p (.v (.string ⟨#[112, 114, 101, 115, 104, 97, 114, 101, 100, 95, 107, 101, 121]⟩)), .p (.v (.string ⟨#[101, 110, 100, 112, 111, 105, 110, 116]⟩)), .p (.v (.string ⟨#[112, 101, 114, 115, 105, 115, 116, 101, 110, 116, 95, 107, 101, 101, 112, 97, 108, 105, 118, 101, 95, 105, 110, 116, 101, 114, 118, 97, 108]⟩)), .p (.v (.string ⟨#[114, 101, 112, 108, 97, 99, 101, 95, 97, 108, 108, 111, 119, 101, 100, 95, 105, 112, 115]⟩)), .p (.v (.string ⟨#[97, 108, 108, 111, 119, 101, 100, 95, 105, 112]⟩))]) (cs := [.v (.string ⟨#[]⟩), .v (.string ⟨#[112, 114, 105, 118, 97, 116, 101, 95, 107, 101, 121]⟩), .v (.string ⟨#[108, 105, 115, 116, 101, 110, 95, 112, 111, 114, 116]⟩), .v (.string ⟨#[114, 101, 112, 108, 97, 99, 101, 95, 112, 101, 101, 114, 115]⟩), .v (.string ⟨#[112, 117, 98, 108, 105, 99, 95, 107, 101, 121]⟩), .v (.string ⟨#[114, 101, 109, 111, 118, 101]⟩), .v (.string ⟨#[112, 114, 101, 115, 104, 97, 114, 101, 100, 95, 107, 101, 121]⟩), .v (.string ⟨#[101, 110, 100, 112, 111, 105, 110, 116]⟩), .v (.string ⟨#[112, 101, 114, 115, 105, 115, 116, 101, 110, 116, 95, 107, 101, 101, 112, 97, 108, 105, 118, 101, 95, 105, 110, 116, 101, 114, 118, 97, 108]⟩), .v (.string ⟨#[114, 101, 112, 108, 97, 99, 101, 95, 97, 108, 108, 111, 119, 101, 100, 95, 105, 112, 115]⟩), .v (.string ⟨#[97, 108, 108, 111, 119, 101, 100, 95, 105, 112]⟩)]) 1 U89 sz9 zc9 (Nat.le_of_ble_eq_true rfl) (Nat.le_of_ble_eq_true rfl) rfl (by kernel_rfl) (by kernel_rfl) (by kernel_rfl) (Nat.le_of_ble_eq_true rfl)) (by first | rfl | kernel_rfl) rfl ⟨rfl, trivial⟩ ?_
 refine G [2, 9, 0] ?_
 refine zbr (zfA (cs := [.v (.string ⟨#[]⟩), .v (.string ⟨#[112, 114, 105, 118, 97, 116, 101, 95, 107, 101, 121]⟩), .v (.string ⟨#[108, 105, 115, 116, 101, 110, 95, 112, 111, 114, 116]⟩), .v (.string ⟨#[114, 101, 112, 108, 97, 99, 101, 95, 112, 101, 101, 114, 115]⟩), .v (.string ⟨#[112, 117, 98, 108, 105, 99, 95, 107, 101, 121]⟩), .v (.string ⟨#[114, 101, 109, 111, 118, 101]⟩), .v (.string ⟨#[112, 114, 101, 115, 104, 97, 114, 101, 100, 95, 107, 101, 121]⟩), .v (.string ⟨#[101, 110, 100, 112, 111, 105, 110, 116]⟩), .v (.string ⟨#[112, 101, 114, 115, 105, 115, 116, 101, 110, 116, 95, 107, 101, 101, 112, 97, 108, 105, 118, 101, 95, 105, 110, 116, 101, 114, 118, 97, 108]⟩), .v (.string ⟨#[114, 101, 112, 108, 97, 99, 101, 95, 97, 108, 108, 111, 119, 101, 100, 95, 105, 112, 115]⟩), .v (.string ⟨#[97, 108, 108, 111, 119, 101, 100, 95, 105, 112]⟩)]) 1 rfl) ?_
 refine za2 ?_
 exact yE
def seL (s : SE) : ByteArray :=
 if isN s.k = true then itoS s.n else if s.k = 3 ∨ s.k = 5 ∨ s.k = 9 then TRUES else if s.k = 10 then ntX s.a s.b
 else if s.k = 6 ∧ s.t = ⟨#[]⟩ then zcY else s.t
theorem seL_1 (t : ByteArray) (n a b : Int) : seL ⟨1, t, n, a, b⟩ = (t) := by simp [seL, isN]
theorem seL_2 (t : ByteArray) (n a b : Int) : seL ⟨2, t, n, a, b⟩ = (itoS n) := by simp [seL, isN]
theorem seL_3 (t : ByteArray) (n a b : Int) : seL ⟨3, t, n, a, b⟩ = (TRUES) := by simp [seL, isN]
theorem seL_4 (t : ByteArray) (n a b : Int) : seL ⟨4, t, n, a, b⟩ = (t) := by simp [seL, isN]
theorem seL_5 (t : ByteArray) (n a b : Int) : seL ⟨5, t, n, a, b⟩ = (TRUES) := by simp [seL, isN]
theorem seL_6 (t : ByteArray) (n a b : Int) : seL ⟨6, t, n, a, b⟩ = (if t = ⟨#[]⟩ then zcY else t) := by simp [seL, isN]
theorem seL_7 (t : ByteArray) (n a b : Int) : seL ⟨7, t, n, a, b⟩ = (t) := by simp [seL, isN]
theorem seL_8 (t : ByteArray) (n a b : Int) : seL ⟨8, t, n, a, b⟩ = (itoS n) := by simp [seL, isN]
theorem seL_9 (t : ByteArray) (n a b : Int) : seL ⟨9, t, n, a, b⟩ = (TRUES) := by simp [seL, isN]
theorem seL_10 (t : ByteArray) (n a b : Int) : seL ⟨10, t, n, a, b⟩ = (ntX a b) := by simp [seL, isN]
set_option maxHeartbeats 2000000 in
theorem value1_s (t : ByteArray) (n a b : Int) (ok : SE.OK ⟨1, t, n, a, b⟩) : Fn prog 126 [.agg (SE.cells ⟨1, t, n, a, b⟩)] (.p (.v (.string (seL ⟨1, t, n, a, b⟩)))) [] := by
 obtain ⟨hz, hn0, hn1, ha0, ha1⟩ := ok
 dsimp only at hz hn0 hn1 ha0 ha1
 rw [seL_1]
 show Fn prog _ [.agg [.p (.v (.int .i64 1)), .p (.v (.string t)), .p (.v (.int .i64 n)), .p (.v (.int .u32 a)), .p (.v (.int .i64 b))]] _ _
 refine fnI fun w0 A => ?_
 refine G [19] ?_
 skip
 refine G [18] ?_
 skip
 refine G [25, 9, 0] ?_
 exact yE
set_option maxHeartbeats 2000000 in
theorem value2_s (t : ByteArray) (n a b : Int) (ok : SE.OK ⟨2, t, n, a, b⟩) : Fn prog 126 [.agg (SE.cells ⟨2, t, n, a, b⟩)] (.p (.v (.string (seL ⟨2, t, n, a, b⟩)))) [] := by
 obtain ⟨hz, hn0, hn1, ha0, ha1⟩ := ok
 dsimp only at hz hn0 hn1 ha0 ha1
 rw [seL_2]
 show Fn prog _ [.agg [.p (.v (.int .i64 2)), .p (.v (.string t)), .p (.v (.int .i64 n)), .p (.v (.int .u32 a)), .p (.v (.int .i64 b))]] _ _
 have hI := zeo n hn0 hn1
 refine fnI fun w0 A => ?_
 refine G [15, 1, 9] ?_
 refine cK hI ?_
 refine G [3, 9, 0] ?_
 exact yE
set_option maxHeartbeats 2000000 in
theorem value3_s (t : ByteArray) (n a b : Int) (ok : SE.OK ⟨3, t, n, a, b⟩) : Fn prog 126 [.agg (SE.cells ⟨3, t, n, a, b⟩)] (.p (.v (.string (seL ⟨3, t, n, a, b⟩)))) [] := by
 obtain ⟨hz, hn0, hn1, ha0, ha1⟩ := ok
 dsimp only at hz hn0 hn1 ha0 ha1
 rw [seL_3]
 show Fn prog _ [.agg [.p (.v (.int .i64 3)), .p (.v (.string t)), .p (.v (.int .i64 n)), .p (.v (.int .u32 a)), .p (.v (.int .i64 b))]] _ _
 show Fn prog _ _ (.p (.v (.string ⟨#[116, 114, 117, 101]⟩))) _
 refine fnI fun w0 A => ?_
 refine G [19] ?_
 skip
 refine G [8, 1, 10, 9, 0] ?_
 exact yE
set_option maxHeartbeats 2000000 in
theorem value4_s (t : ByteArray) (n a b : Int) (ok : SE.OK ⟨4, t, n, a, b⟩) : Fn prog 126 [.agg (SE.cells ⟨4, t, n, a, b⟩)] (.p (.v (.string (seL ⟨4, t, n, a, b⟩)))) [] := by
 obtain ⟨hz, hn0, hn1, ha0, ha1⟩ := ok
 dsimp only at hz hn0 hn1 ha0 ha1
 rw [seL_4]
 show Fn prog _ [.agg [.p (.v (.int .i64 4)), .p (.v (.string t)), .p (.v (.int .i64 n)), .p (.v (.int .u32 a)), .p (.v (.int .i64 b))]] _ _
 refine fnI fun w0 A => ?_
 refine G [19] ?_
 skip
 refine G [18] ?_
 skip
 refine G [25, 9, 0] ?_
 exact yE
set_option maxHeartbeats 2000000 in
theorem value5_s (t : ByteArray) (n a b : Int) (ok : SE.OK ⟨5, t, n, a, b⟩) : Fn prog 126 [.agg (SE.cells ⟨5, t, n, a, b⟩)] (.p (.v (.string (seL ⟨5, t, n, a, b⟩)))) [] := by
 obtain ⟨hz, hn0, hn1, ha0, ha1⟩ := ok
 dsimp only at hz hn0 hn1 ha0 ha1
 rw [seL_5]
 show Fn prog _ [.agg [.p (.v (.int .i64 5)), .p (.v (.string t)), .p (.v (.int .i64 n)), .p (.v (.int .u32 a)), .p (.v (.int .i64 b))]] _ _
 show Fn prog _ _ (.p (.v (.string ⟨#[116, 114, 117, 101]⟩))) _
 refine fnI fun w0 A => ?_
 refine G [19] ?_
 skip
 refine G [14, 1, 10, 9, 0] ?_
 exact yE
set_option maxHeartbeats 2000000 in
theorem value6_s (t : ByteArray) (n a b : Int) (ok : SE.OK ⟨6, t, n, a, b⟩) : Fn prog 126 [.agg (SE.cells ⟨6, t, n, a, b⟩)] (.p (.v (.string (seL ⟨6, t, n, a, b⟩)))) [] := by
 obtain ⟨hz, hn0, hn1, ha0, ha1⟩ := ok
 dsimp only at hz hn0 hn1 ha0 ha1
 rw [seL_6]
 show Fn prog _ [.agg [.p (.v (.int .i64 6)), .p (.v (.string t)), .p (.v (.int .i64 n)), .p (.v (.int .u32 a)), .p (.v (.int .i64 b))]] _ _
 have hZ := zec
 generalize zcY = ZZ at *
 refine fnI fun w0 A => ?_
 refine G [19] ?_
 skip
 refine G [18] ?_
 skip
 refine G [13, 1, 9, 9, 0] ?_
 refine zab _ rfl (fun h => ?_) (fun h => ?_)
 ·rw [if_pos (show t = ⟨#[]⟩ by simpa using h)]
  refine G [2] ?_
  refine cK hZ ?_
  refine G [3, 9, 0] ?_
  exact yE
 ·rw [if_neg (show ¬ t = ⟨#[]⟩ by simpa using h)]
  refine G [8, 9, 0] ?_
  exact yE
set_option maxHeartbeats 2000000 in
theorem value7_s (t : ByteArray) (n a b : Int) (ok : SE.OK ⟨7, t, n, a, b⟩) : Fn prog 126 [.agg (SE.cells ⟨7, t, n, a, b⟩)] (.p (.v (.string (seL ⟨7, t, n, a, b⟩)))) [] := by
 obtain ⟨hz, hn0, hn1, ha0, ha1⟩ := ok
 dsimp only at hz hn0 hn1 ha0 ha1
 rw [seL_7]
 show Fn prog _ [.agg [.p (.v (.int .i64 7)), .p (.v (.string t)), .p (.v (.int .i64 n)), .p (.v (.int .u32 a)), .p (.v (.int .i64 b))]] _ _
 refine fnI fun w0 A => ?_
 refine G [19] ?_
 skip
 refine G [18] ?_
 skip
 refine G [25, 9, 0] ?_
 exact yE
set_option maxHeartbeats 2000000 in
theorem value8_s (t : ByteArray) (n a b : Int) (ok : SE.OK ⟨8, t, n, a, b⟩) : Fn prog 126 [.agg (SE.cells ⟨8, t, n, a, b⟩)] (.p (.v (.string (seL ⟨8, t, n, a, b⟩)))) [] := by
 obtain ⟨hz, hn0, hn1, ha0, ha1⟩ := ok
 dsimp only at hz hn0 hn1 ha0 ha1
 rw [seL_8]
 show Fn prog _ [.agg [.p (.v (.int .i64 8)), .p (.v (.string t)), .p (.v (.int .i64 n)), .p (.v (.int .u32 a)), .p (.v (.int .i64 b))]] _ _
 have hI := zeo n hn0 hn1
 refine fnI fun w0 A => ?_
 refine G [19] ?_
 skip
 refine G [1, 1, 7] ?_
 refine cK hI ?_
 refine G [3, 9, 0] ?_
 exact yE
set_option maxHeartbeats 2000000 in
theorem value9_s (t : ByteArray) (n a b : Int) (ok : SE.OK ⟨9, t, n, a, b⟩) : Fn prog 126 [.agg (SE.cells ⟨9, t, n, a, b⟩)] (.p (.v (.string (seL ⟨9, t, n, a, b⟩)))) [] := by
 obtain ⟨hz, hn0, hn1, ha0, ha1⟩ := ok
 dsimp only at hz hn0 hn1 ha0 ha1
 rw [seL_9]
 show Fn prog _ [.agg [.p (.v (.int .i64 9)), .p (.v (.string t)), .p (.v (.int .i64 n)), .p (.v (.int .u32 a)), .p (.v (.int .i64 b))]] _ _
 show Fn prog _ _ (.p (.v (.string ⟨#[116, 114, 117, 101]⟩))) _
 refine fnI fun w0 A => ?_
 refine G [19] ?_
 skip
 refine G [18] ?_
 skip
 refine G [1, 1, 8, 9, 0] ?_
 exact yE
set_option maxHeartbeats 2000000 in
theorem value10_s (t : ByteArray) (n a b : Int) (ok : SE.OK ⟨10, t, n, a, b⟩) : Fn prog 126 [.agg (SE.cells ⟨10, t, n, a, b⟩)] (.p (.v (.string (seL ⟨10, t, n, a, b⟩)))) [] := by
 obtain ⟨hz, hn0, hn1, ha0, ha1⟩ := ok
 dsimp only at hz hn0 hn1 ha0 ha1
 rw [seL_10]
 show Fn prog _ [.agg [.p (.v (.int .i64 10)), .p (.v (.string t)), .p (.v (.int .i64 n)), .p (.v (.int .u32 a)), .p (.v (.int .i64 b))]] _ _
 have hT := ntText_s a b ha0 ha1
 unfold ntR at hT
 change Fn prog _ [.agg [.p (.v (.int .u32 a)), .p (.v (.int .i64 b))]] _ _ at hT
 generalize ntX a b = X at *
 generalize zax a b = fe at *
 refine fnI fun w0 A => ?_
 refine G [19] ?_
 skip
 refine G [18] ?_
 skip
 refine G [7, 1, 7] ?_
 refine cV hT ?_
 refine G [12, 9, 0] ?_
 exact yE
set_option maxHeartbeats 2000000 in
theorem refLine1_s (t : ByteArray) (n a b : Int) (ok : SE.OK ⟨1, t, n, a, b⟩) (hC : Fn prog 25 [.agg (SE.cells ⟨1, t, n, a, b⟩)] (.p (.v (.int .i64 0))) []) : Fn prog 103 [.agg (SE.cells ⟨1, t, n, a, b⟩)] (.tup [.agg [.p (.v (.string W1)), .p (.v (.string (seL ⟨1, t, n, a, b⟩)))], .p (.v (.int .i64 0))]) [] := by
 obtain ⟨hz, hn0, hn1, ha0, ha1⟩ := ok
 dsimp only at hz hn0 hn1 ha0 ha1
 rw [seL_1]
 have hW := zcr
 have hWl : za4.length = 11 := rfl
 have hWa : (za4.drop 1)[0]? = some (.v (.string W1)) := rfl
 generalize za4 = L at *
 generalize W1 = w at *
 show Fn prog _ [.agg [.p (.v (.int .i64 1)), .p (.v (.string t)), .p (.v (.int .i64 n)), .p (.v (.int .u32 a)), .p (.v (.int .i64 b))]] _ _
 change Fn prog _ [.agg [.p (.v (.int .i64 1)), .p (.v (.string t)), .p (.v (.int .i64 n)), .p (.v (.int .u32 a)), .p (.v (.int .i64 b))]] _ _ at hC
 refine fnI fun w0 A => ?_
 refine G [10] ?_
 refine cK hC ?_
 refine G [5, 1, 23] ?_
 skip
 refine G [18] ?_
 skip
 refine G [27] ?_
 refine cK hW ?_
 refine G [2] ?_
 refine zaa (zad U89 sz9 (by omega) (by omega) rfl) rfl rfl ?_
 refine zaa (zaZ U9 rfl hWa) rfl rfl ?_
 refine G [6, 9, 0] ?_
 exact yE
set_option maxHeartbeats 2000000 in
theorem refLine2_s (t : ByteArray) (n a b : Int) (ok : SE.OK ⟨2, t, n, a, b⟩) (hC : Fn prog 25 [.agg (SE.cells ⟨2, t, n, a, b⟩)] (.p (.v (.int .i64 0))) []) : Fn prog 103 [.agg (SE.cells ⟨2, t, n, a, b⟩)] (.tup [.agg [.p (.v (.string W2)), .p (.v (.string (seL ⟨2, t, n, a, b⟩)))], .p (.v (.int .i64 0))]) [] := by
 obtain ⟨hz, hn0, hn1, ha0, ha1⟩ := ok
 dsimp only at hz hn0 hn1 ha0 ha1
 rw [seL_2]
 have hW := zcr
 have hWl : za4.length = 11 := rfl
 have hWa : (za4.drop 2)[0]? = some (.v (.string W2)) := rfl
 generalize za4 = L at *
 generalize W2 = w at *
 show Fn prog _ [.agg [.p (.v (.int .i64 2)), .p (.v (.string t)), .p (.v (.int .i64 n)), .p (.v (.int .u32 a)), .p (.v (.int .i64 b))]] _ _
 change Fn prog _ [.agg [.p (.v (.int .i64 2)), .p (.v (.string t)), .p (.v (.int .i64 n)), .p (.v (.int .u32 a)), .p (.v (.int .i64 b))]] _ _ at hC
 have hI := zeo n hn0 hn1
 refine fnI fun w0 A => ?_
 refine G [10] ?_
 refine cK hC ?_
 refine G [5, 1, 19, 1, 5] ?_
 skip
 refine G [3] ?_
 refine cK hI ?_
 refine G [17] ?_
 refine cK hW ?_
 refine G [2] ?_
 refine zaa (zad U89 sz9 (by omega) (by omega) rfl) rfl rfl ?_
 refine zaa (zaZ U9 rfl hWa) rfl rfl ?_
 refine G [6, 9, 0] ?_
 exact yE
set_option maxHeartbeats 2000000 in
theorem refLine3_s (t : ByteArray) (n a b : Int) (ok : SE.OK ⟨3, t, n, a, b⟩) (hC : Fn prog 25 [.agg (SE.cells ⟨3, t, n, a, b⟩)] (.p (.v (.int .i64 0))) []) : Fn prog 103 [.agg (SE.cells ⟨3, t, n, a, b⟩)] (.tup [.agg [.p (.v (.string W3)), .p (.v (.string (seL ⟨3, t, n, a, b⟩)))], .p (.v (.int .i64 0))]) [] := by
 obtain ⟨hz, hn0, hn1, ha0, ha1⟩ := ok
 dsimp only at hz hn0 hn1 ha0 ha1
 rw [seL_3]
 have hW := zcr
 have hWl : za4.length = 11 := rfl
 have hWa : (za4.drop 3)[0]? = some (.v (.string W3)) := rfl
 generalize za4 = L at *
 generalize W3 = w at *
 show Fn prog _ [.agg [.p (.v (.int .i64 3)), .p (.v (.string t)), .p (.v (.int .i64 n)), .p (.v (.int .u32 a)), .p (.v (.int .i64 b))]] _ _
 change Fn prog _ [.agg [.p (.v (.int .i64 3)), .p (.v (.string t)), .p (.v (.int .i64 n)), .p (.v (.int .u32 a)), .p (.v (.int .i64 b))]] _ _ at hC
 have hTr : TRUES = ⟨#[116, 114, 117, 101]⟩ := rfl
 rw [hTr]
 refine fnI fun w0 A => ?_
 refine G [10] ?_
 refine cK hC ?_
 refine G [5, 1, 23] ?_
 skip
 refine G [8, 1, 5] ?_
 skip
 refine G [18] ?_
 refine cK hW ?_
 refine G [2] ?_
 refine zaa (zad U89 sz9 (by omega) (by omega) rfl) rfl rfl ?_
 refine zaa (zaZ U9 rfl hWa) rfl rfl ?_
 refine G [6, 9, 0] ?_
 exact yE
set_option maxHeartbeats 2000000 in
theorem refLine4_s (t : ByteArray) (n a b : Int) (ok : SE.OK ⟨4, t, n, a, b⟩) (hC : Fn prog 25 [.agg (SE.cells ⟨4, t, n, a, b⟩)] (.p (.v (.int .i64 0))) []) : Fn prog 103 [.agg (SE.cells ⟨4, t, n, a, b⟩)] (.tup [.agg [.p (.v (.string W4)), .p (.v (.string (seL ⟨4, t, n, a, b⟩)))], .p (.v (.int .i64 0))]) [] := by
 obtain ⟨hz, hn0, hn1, ha0, ha1⟩ := ok
 dsimp only at hz hn0 hn1 ha0 ha1
 rw [seL_4]
 have hW := zcr
 have hWl : za4.length = 11 := rfl
 have hWa : (za4.drop 4)[0]? = some (.v (.string W4)) := rfl
 generalize za4 = L at *
 generalize W4 = w at *
 show Fn prog _ [.agg [.p (.v (.int .i64 4)), .p (.v (.string t)), .p (.v (.int .i64 n)), .p (.v (.int .u32 a)), .p (.v (.int .i64 b))]] _ _
 change Fn prog _ [.agg [.p (.v (.int .i64 4)), .p (.v (.string t)), .p (.v (.int .i64 n)), .p (.v (.int .u32 a)), .p (.v (.int .i64 b))]] _ _ at hC
 refine fnI fun w0 A => ?_
 refine G [10] ?_
 refine cK hC ?_
 refine G [5, 1, 23] ?_
 skip
 refine G [18] ?_
 skip
 refine G [27] ?_
 refine cK hW ?_
 refine G [2] ?_
 refine zaa (zad U89 sz9 (by omega) (by omega) rfl) rfl rfl ?_
 refine zaa (zaZ U9 rfl hWa) rfl rfl ?_
 refine G [6, 9, 0] ?_
 exact yE
set_option maxHeartbeats 2000000 in
theorem refLine5_s (t : ByteArray) (n a b : Int) (ok : SE.OK ⟨5, t, n, a, b⟩) (hC : Fn prog 25 [.agg (SE.cells ⟨5, t, n, a, b⟩)] (.p (.v (.int .i64 0))) []) : Fn prog 103 [.agg (SE.cells ⟨5, t, n, a, b⟩)] (.tup [.agg [.p (.v (.string W5)), .p (.v (.string (seL ⟨5, t, n, a, b⟩)))], .p (.v (.int .i64 0))]) [] := by
 obtain ⟨hz, hn0, hn1, ha0, ha1⟩ := ok
 dsimp only at hz hn0 hn1 ha0 ha1
 rw [seL_5]
 have hW := zcr
 have hWl : za4.length = 11 := rfl
 have hWa : (za4.drop 5)[0]? = some (.v (.string W5)) := rfl
 generalize za4 = L at *
 generalize W5 = w at *
 show Fn prog _ [.agg [.p (.v (.int .i64 5)), .p (.v (.string t)), .p (.v (.int .i64 n)), .p (.v (.int .u32 a)), .p (.v (.int .i64 b))]] _ _
 change Fn prog _ [.agg [.p (.v (.int .i64 5)), .p (.v (.string t)), .p (.v (.int .i64 n)), .p (.v (.int .u32 a)), .p (.v (.int .i64 b))]] _ _ at hC
 have hTr : TRUES = ⟨#[116, 114, 117, 101]⟩ := rfl
 rw [hTr]
 refine fnI fun w0 A => ?_
 refine G [10] ?_
 refine cK hC ?_
 refine G [5, 1, 23] ?_
 skip
 refine G [14, 1, 5] ?_
 skip
 refine G [18] ?_
 refine cK hW ?_
 refine G [2] ?_
 refine zaa (zad U89 sz9 (by omega) (by omega) rfl) rfl rfl ?_
 refine zaa (zaZ U9 rfl hWa) rfl rfl ?_
 refine G [6, 9, 0] ?_
 exact yE
set_option maxHeartbeats 2000000 in
theorem refLine6_s (t : ByteArray) (n a b : Int) (ok : SE.OK ⟨6, t, n, a, b⟩) (hC : Fn prog 25 [.agg (SE.cells ⟨6, t, n, a, b⟩)] (.p (.v (.int .i64 0))) []) : Fn prog 103 [.agg (SE.cells ⟨6, t, n, a, b⟩)] (.tup [.agg [.p (.v (.string W6)), .p (.v (.string (seL ⟨6, t, n, a, b⟩)))], .p (.v (.int .i64 0))]) [] := by
 obtain ⟨hz, hn0, hn1, ha0, ha1⟩ := ok
 dsimp only at hz hn0 hn1 ha0 ha1
 rw [seL_6]
 have hW := zcr
 have hWl : za4.length = 11 := rfl
 have hWa : (za4.drop 6)[0]? = some (.v (.string W6)) := rfl
 generalize za4 = L at *
 generalize W6 = w at *
 show Fn prog _ [.agg [.p (.v (.int .i64 6)), .p (.v (.string t)), .p (.v (.int .i64 n)), .p (.v (.int .u32 a)), .p (.v (.int .i64 b))]] _ _
 change Fn prog _ [.agg [.p (.v (.int .i64 6)), .p (.v (.string t)), .p (.v (.int .i64 n)), .p (.v (.int .u32 a)), .p (.v (.int .i64 b))]] _ _ at hC
 have hZ := zeJ
 generalize zcY = ZZ at *
 refine fnI fun w0 A => ?_
 refine G [10] ?_
 refine cK hC ?_
 refine G [5, 1, 23] ?_
 skip
 refine G [18] ?_
 skip
 refine G [11] ?_
 by_cases h1 : t = ⟨#[]⟩
 ·rw [if_pos h1]
  refine G [6, 1, 2] ?_
  refine zaa (zah (c := true) (by simp [h1])) rfl rfl ?_
  refine G [3] ?_
  skip
  refine tx ?_
  refine cK hZ ?_
  refine G [4] ?_
  refine cK hW ?_
  refine G [2] ?_
  refine zaa (zad U89 sz9 (by omega) (by omega) rfl) rfl rfl ?_
  refine zaa (zaZ U9 rfl hWa) rfl rfl ?_
  refine G [6, 9, 0] ?_
  exact yE
 rw [if_neg h1]
 refine G [6, 1, 2] ?_
 refine zaa (zah (c := false) (by simp [h1])) rfl rfl ?_
 refine G [6] ?_
 refine cK hW ?_
 refine G [2] ?_
 refine zaa (zad U89 sz9 (by omega) (by omega) rfl) rfl rfl ?_
 refine zaa (zaZ U9 rfl hWa) rfl rfl ?_
 refine G [6, 9, 0] ?_
 exact yE
set_option maxHeartbeats 2000000 in
theorem refLine7_s (t : ByteArray) (n a b : Int) (ok : SE.OK ⟨7, t, n, a, b⟩) (hC : Fn prog 25 [.agg (SE.cells ⟨7, t, n, a, b⟩)] (.p (.v (.int .i64 0))) []) : Fn prog 103 [.agg (SE.cells ⟨7, t, n, a, b⟩)] (.tup [.agg [.p (.v (.string W7)), .p (.v (.string (seL ⟨7, t, n, a, b⟩)))], .p (.v (.int .i64 0))]) [] := by
 obtain ⟨hz, hn0, hn1, ha0, ha1⟩ := ok
 dsimp only at hz hn0 hn1 ha0 ha1
 rw [seL_7]
 have hW := zcr
 have hWl : za4.length = 11 := rfl
 have hWa : (za4.drop 7)[0]? = some (.v (.string W7)) := rfl
 generalize za4 = L at *
 generalize W7 = w at *
 show Fn prog _ [.agg [.p (.v (.int .i64 7)), .p (.v (.string t)), .p (.v (.int .i64 n)), .p (.v (.int .u32 a)), .p (.v (.int .i64 b))]] _ _
 change Fn prog _ [.agg [.p (.v (.int .i64 7)), .p (.v (.string t)), .p (.v (.int .i64 n)), .p (.v (.int .u32 a)), .p (.v (.int .i64 b))]] _ _ at hC
 refine fnI fun w0 A => ?_
 refine G [10] ?_
 refine cK hC ?_
 refine G [5, 1, 23] ?_
 skip
 refine G [18] ?_
 skip
 refine G [27] ?_
 refine cK hW ?_
 refine G [2] ?_
 refine zaa (zad U89 sz9 (by omega) (by omega) rfl) rfl rfl ?_
 refine zaa (zaZ U9 rfl hWa) rfl rfl ?_
 refine G [6, 9, 0] ?_
 exact yE
set_option maxHeartbeats 2000000 in
theorem refLine8_s (t : ByteArray) (n a b : Int) (ok : SE.OK ⟨8, t, n, a, b⟩) (hC : Fn prog 25 [.agg (SE.cells ⟨8, t, n, a, b⟩)] (.p (.v (.int .i64 0))) []) : Fn prog 103 [.agg (SE.cells ⟨8, t, n, a, b⟩)] (.tup [.agg [.p (.v (.string W8)), .p (.v (.string (seL ⟨8, t, n, a, b⟩)))], .p (.v (.int .i64 0))]) [] := by
 obtain ⟨hz, hn0, hn1, ha0, ha1⟩ := ok
 dsimp only at hz hn0 hn1 ha0 ha1
 rw [seL_8]
 have hW := zcr
 have hWl : za4.length = 11 := rfl
 have hWa : (za4.drop 8)[0]? = some (.v (.string W8)) := rfl
 generalize za4 = L at *
 generalize W8 = w at *
 show Fn prog _ [.agg [.p (.v (.int .i64 8)), .p (.v (.string t)), .p (.v (.int .i64 n)), .p (.v (.int .u32 a)), .p (.v (.int .i64 b))]] _ _
 change Fn prog _ [.agg [.p (.v (.int .i64 8)), .p (.v (.string t)), .p (.v (.int .i64 n)), .p (.v (.int .u32 a)), .p (.v (.int .i64 b))]] _ _ at hC
 have hI := zeo n hn0 hn1
 refine fnI fun w0 A => ?_
 refine G [10] ?_
 refine cK hC ?_
 refine G [5, 1, 23] ?_
 skip
 refine G [1, 1, 3] ?_
 skip
 refine G [3] ?_
 refine cK hI ?_
 refine G [17] ?_
 refine cK hW ?_
 refine G [2] ?_
 refine zaa (zad U89 sz9 (by omega) (by omega) rfl) rfl rfl ?_
 refine zaa (zaZ U9 rfl hWa) rfl rfl ?_
 refine G [6, 9, 0] ?_
 exact yE
set_option maxHeartbeats 2000000 in
theorem refLine9_s (t : ByteArray) (n a b : Int) (ok : SE.OK ⟨9, t, n, a, b⟩) (hC : Fn prog 25 [.agg (SE.cells ⟨9, t, n, a, b⟩)] (.p (.v (.int .i64 0))) []) : Fn prog 103 [.agg (SE.cells ⟨9, t, n, a, b⟩)] (.tup [.agg [.p (.v (.string W9)), .p (.v (.string (seL ⟨9, t, n, a, b⟩)))], .p (.v (.int .i64 0))]) [] := by
 obtain ⟨hz, hn0, hn1, ha0, ha1⟩ := ok
 dsimp only at hz hn0 hn1 ha0 ha1
 rw [seL_9]
 have hW := zcr
 have hWl : za4.length = 11 := rfl
 have hWa : (za4.drop 9)[0]? = some (.v (.string W9)) := rfl
 generalize za4 = L at *
 generalize W9 = w at *
 show Fn prog _ [.agg [.p (.v (.int .i64 9)), .p (.v (.string t)), .p (.v (.int .i64 n)), .p (.v (.int .u32 a)), .p (.v (.int .i64 b))]] _ _
 change Fn prog _ [.agg [.p (.v (.int .i64 9)), .p (.v (.string t)), .p (.v (.int .i64 n)), .p (.v (.int .u32 a)), .p (.v (.int .i64 b))]] _ _ at hC
 have hTr : TRUES = ⟨#[116, 114, 117, 101]⟩ := rfl
 rw [hTr]
 refine fnI fun w0 A => ?_
 refine G [10] ?_
 refine cK hC ?_
 refine G [5, 1, 23] ?_
 skip
 refine G [18] ?_
 skip
 refine G [1, 1, 3] ?_
 skip
 refine G [18] ?_
 refine cK hW ?_
 refine G [2] ?_
 refine zaa (zad U89 sz9 (by omega) (by omega) rfl) rfl rfl ?_
 refine zaa (zaZ U9 rfl hWa) rfl rfl ?_
 refine G [6, 9, 0] ?_
 exact yE
set_option maxHeartbeats 2000000 in
theorem refLine10_s (t : ByteArray) (n a b : Int) (ok : SE.OK ⟨10, t, n, a, b⟩) (hC : Fn prog 25 [.agg (SE.cells ⟨10, t, n, a, b⟩)] (.p (.v (.int .i64 0))) []) : Fn prog 103 [.agg (SE.cells ⟨10, t, n, a, b⟩)] (.tup [.agg [.p (.v (.string W10)), .p (.v (.string (seL ⟨10, t, n, a, b⟩)))], .p (.v (.int .i64 0))]) [] := by
 obtain ⟨hz, hn0, hn1, ha0, ha1⟩ := ok
 dsimp only at hz hn0 hn1 ha0 ha1
 rw [seL_10]
 have hW := zcr
 have hWl : za4.length = 11 := rfl
 have hWa : (za4.drop 10)[0]? = some (.v (.string W10)) := rfl
 generalize za4 = L at *
 generalize W10 = w at *
 show Fn prog _ [.agg [.p (.v (.int .i64 10)), .p (.v (.string t)), .p (.v (.int .i64 n)), .p (.v (.int .u32 a)), .p (.v (.int .i64 b))]] _ _
 change Fn prog _ [.agg [.p (.v (.int .i64 10)), .p (.v (.string t)), .p (.v (.int .i64 n)), .p (.v (.int .u32 a)), .p (.v (.int .i64 b))]] _ _ at hC
 have hT := refNtText_s a b ha0 ha1
 unfold ntR at hT
 change Fn prog _ [.agg [.p (.v (.int .u32 a)), .p (.v (.int .i64 b))]] _ _ at hT
 generalize ntX a b = X at *
 generalize zax a b = fe at *
 refine fnI fun w0 A => ?_
 refine G [10] ?_
 refine cK hC ?_
 refine G [5, 1, 23] ?_
 skip
 refine G [18] ?_
 skip
 refine G [7, 1, 3] ?_
 skip
 refine G [3] ?_
 refine cV hT ?_
 refine G [20] ?_
 refine cK hW ?_
 refine G [2] ?_
 refine zaa (zad U89 sz9 (by omega) (by omega) rfl) rfl rfl ?_
 refine zaa (zaZ U9 rfl hWa) rfl rfl ?_
 refine G [6, 9, 0] ?_
 exact yE
theorem value_s (s : SE) (ok : s.OK) (h0 : 1 ≤ s.k) (h1 : s.k ≤ 10) : Fn prog 126 [.agg s.cells] (.p (.v (.string (seL s)))) [] := by
 obtain ⟨k, t, n, a, b⟩ := s
 dsimp only at h0 h1
 have : k = 1 ∨ k = 2 ∨ k = 3 ∨ k = 4 ∨ k = 5 ∨ k = 6 ∨ k = 7 ∨ k = 8 ∨ k = 9 ∨ k = 10 := by omega
 rcases this with rfl | rfl | rfl | rfl | rfl | rfl | rfl | rfl | rfl | rfl
 ·exact value1_s t n a b ok
 ·exact value2_s t n a b ok
 ·exact value3_s t n a b ok
 ·exact value4_s t n a b ok
 ·exact value5_s t n a b ok
 ·exact value6_s t n a b ok
 ·exact value7_s t n a b ok
 ·exact value8_s t n a b ok
 ·exact value9_s t n a b ok
 ·exact value10_s t n a b ok
def seR (s : SE) : AV := if seE s = 0 then .tup [.agg [.p (.v (.string (word s.k))), .p (.v (.string (seL s)))], .p (.v (.int .i64 0))] else .tup [.agg [.p (.v (.string ⟨#[]⟩)), .p (.v (.string ⟨#[]⟩))], .p (.v (.int .i64 (seE s)))]
theorem seR_bad {s : SE} {e : Int} (h : seE s = e) (he : e ≠ 0) : seR s = .tup [.agg [.p (.v (.string ⟨#[]⟩)), .p (.v (.string ⟨#[]⟩))], .p (.v (.int .i64 e))] := by
 subst h
 exact if_neg he
theorem seE_kind {s : SE} (h : seE s = 0) : 1 ≤ s.k ∧ s.k ≤ 10 := by
 by_cases hk : s.k < 1 ∨ 10 < s.k
 ·rw [show seE s = 2 from if_pos hk] at h; cases h
 ·omega
theorem refLineG_s (s : SE) (ok : s.OK) (hE : seE s = 0) : Fn prog 103 [.agg s.cells] (seR s) [] := by
 have hC := zaK s ok
 rw [hE] at hC
 rw [show seR s = _ from if_pos hE]
 obtain ⟨h0, h1⟩ := seE_kind hE
 clear hE
 obtain ⟨k, t, n, a, b⟩ := s
 dsimp only at h0 h1
 have : k = 1 ∨ k = 2 ∨ k = 3 ∨ k = 4 ∨ k = 5 ∨ k = 6 ∨ k = 7 ∨ k = 8 ∨ k = 9 ∨ k = 10 := by omega
 rcases this with rfl | rfl | rfl | rfl | rfl | rfl | rfl | rfl | rfl | rfl
 ·exact refLine1_s t n a b ok hC
 ·exact refLine2_s t n a b ok hC
 ·exact refLine3_s t n a b ok hC
 ·exact refLine4_s t n a b ok hC
 ·exact refLine5_s t n a b ok hC
 ·exact refLine6_s t n a b ok hC
 ·exact refLine7_s t n a b ok hC
 ·exact refLine8_s t n a b ok hC
 ·exact refLine9_s t n a b ok hC
 ·exact refLine10_s t n a b ok hC
theorem refLine_s (s : SE) (ok : s.OK) : Fn prog 103 [.agg s.cells] (seR s) [] := by
 by_cases hE : seE s = 0
 ·exact refLineG_s s ok hE
 have hC := zaK s ok
 rw [seR_bad rfl hE]
 generalize seE s = e at *
 obtain ⟨k, t, n, a, b⟩ := s
 change Fn prog _ [.agg [.p (.v (.int .i64 k)), .p (.v (.string t)), .p (.v (.int .i64 n)), .p (.v (.int .u32 a)), .p (.v (.int .i64 b))]] _ _ at hC
 show Fn prog _ [.agg [.p (.v (.int .i64 k)), .p (.v (.string t)), .p (.v (.int .i64 n)), .p (.v (.int .u32 a)), .p (.v (.int .i64 b))]] _ _
 refine fnI fun w0 A => ?_
 refine G [10] ?_
 refine cK hC ?_
 refine G [7, 9, 0] ?_
 refine zab _ rfl (fun h => ?_) (fun h => ?_)
 ·refine G [8, 9, 0] ?_
  exact yE
 ·exact absurd (by simpa using h) hE
theorem zeU (s : SE) (ok : s.OK) : Fn prog 98 [.agg s.cells] (seR s) [] := by
 have hC := zdY s ok
 by_cases hE : seE s = 0
 ·rw [show seR s = _ from if_pos hE]
  obtain ⟨h0, h1⟩ := seE_kind hE
  have hV := value_s s ok h0 h1
  have hW := words_s
  have hWa := word_at (k := s.k) (by omega) (by omega)
  rw [hE] at hC
  generalize seL s = L at *
  obtain ⟨k, t, n, a, b⟩ := s
  dsimp only at h0 h1 hWa ⊢
  generalize word k = w at *
  change Fn prog _ [.agg [.p (.v (.int .i64 k)), .p (.v (.string t)), .p (.v (.int .i64 n)), .p (.v (.int .u32 a)), .p (.v (.int .i64 b))]] _ _ at hC
  change Fn prog _ [.agg [.p (.v (.int .i64 k)), .p (.v (.string t)), .p (.v (.int .i64 n)), .p (.v (.int .u32 a)), .p (.v (.int .i64 b))]] _ _ at hV
  show Fn prog _ [.agg [.p (.v (.int .i64 k)), .p (.v (.string t)), .p (.v (.int .i64 n)), .p (.v (.int .u32 a)), .p (.v (.int .i64 b))]] _ _
  refine fnI fun w0 A => ?_
  refine G [10] ?_
  refine cK hC ?_
  refine G [5, 1, 5] ?_
  refine cK hW ?_
  refine G [2] ?_
  refine zaa (zfn underlying137 sz9 U9 rfl (by omega) (by omega) hWa) rfl rfl ?_
  refine lN U29 rfl sz29 rfl rfl ⟨rfl, trivial⟩ ?_
  refine cK hV ?_
  refine G [5, 9, 0] ?_
  exact yE
 rw [seR_bad rfl hE]
 generalize seE s = e at *
 obtain ⟨k, t, n, a, b⟩ := s
 change Fn prog _ [.agg [.p (.v (.int .i64 k)), .p (.v (.string t)), .p (.v (.int .i64 n)), .p (.v (.int .u32 a)), .p (.v (.int .i64 b))]] _ _ at hC
 show Fn prog _ [.agg [.p (.v (.int .i64 k)), .p (.v (.string t)), .p (.v (.int .i64 n)), .p (.v (.int .u32 a)), .p (.v (.int .i64 b))]] _ _
 refine fnI fun w0 A => ?_
 refine G [10] ?_
 refine cK hC ?_
 refine G [7, 9, 0] ?_
 refine zab _ rfl (fun h => ?_) (fun h => ?_)
 ·refine G [8, 9, 0] ?_
  exact yE
 ·exact absurd (by simpa using h) hE
end Go.Proofs.YtkdfdcodkeclmaaGreatDoor
