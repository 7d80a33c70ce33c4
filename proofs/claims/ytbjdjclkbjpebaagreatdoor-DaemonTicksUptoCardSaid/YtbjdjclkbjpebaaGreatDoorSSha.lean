/- sha.Pad and its reference, over data. Words of 32 bits: sha.down, sha.rounds, sha.words and what the reference has for them, over data. The constants of the rounds, over data. sha.words, over data. sha.block, over data. -/
import Derived.Test.YtbjdjclkbjpebaaGreatDoorSMa4
import Derived.Test.YtbjdjclkbjpebaaGreatDoorSTab
namespace Go.Proofs.YtbjdjclkbjpebaaGreatDoor
open Tryz
open Go.RowKit Go.Sort
set_option maxHeartbeats 16000000
set_option linter.unusedVariables false
set_option linter.unusedSimpArgs false
set_option maxRecDepth 100000
def bRes (e : Int) : AV := if e = 0 then .tup [.row 0, .p (.v (.int .i64 0))] else .tup [.p (.v (.slice none 0 0)), .p (.v (.int .i64 e))]
def bNew (e : Int) (n : Nat) (xs : List Int) : List (Nat × AObj) := if e = 0 then [(0, .row 5 1 n (bs xs))] else []
theorem zbZ {e e' : Int} (h : e = e') (he : e' ≠ 0) (n : Nat) (xs : List Int) : bRes e = .tup [.p (.v (.slice none 0 0)), .p (.v (.int .i64 e'))] ∧ bNew e n xs = [] := by
 subst h; unfold bRes bNew
 rw [if_neg he, if_neg he]; exact ⟨rfl, rfl⟩
theorem zaW {e : Int} (h : e = 0) (n : Nat) (xs : List Int) : bRes e = .tup [.row 0, .p (.v (.int .i64 0))] ∧ bNew e n xs = [(0, .row 5 1 n (bs xs))] := by
 subst h; exact ⟨rfl, rfl⟩
def padZ (n : Nat) : Nat := (119 - n % 64) % 64
def be8 (n : Nat) : List Int := (List.range 8).map fun i => ((n / 2 ^ (8 * (7 - i)) % 256 : Nat) : Int)
def zea (xs : List Int) (j : Nat) : List Int := xs ++ [128] ++ List.replicate j 0
def zb1 (xs : List Int) : List Int := zea xs (padZ xs.length) ++ be8 (8 * xs.length)
theorem padTo_len (xs : List Int) (j : Nat) : (zea xs j).length = xs.length + 1 + j := by simp [zea]; omega
theorem zhK (xs : List Int) (j : Nat) : zea xs j ++ [0] = zea xs (j + 1) := by
 simp [zea, List.replicate_succ']
theorem be8_len (n : Nat) : (be8 n).length = 8 := by simp [be8]
theorem be8_take_succ (n k : Nat) (hk : k < 8) : (be8 n).take (k + 1) = (be8 n).take k ++ [((n / 2 ^ (8 * (7 - k)) % 256 : Nat) : Int)] := by
 rw [List.take_succ_eq_append_getElem (by rw [be8_len]; omega)]
 simp [be8]
theorem be8_B (n : Nat) : isB (be8 n) := by
 intro x hx
 simp [be8] at hx
 omega
theorem padTo_B (xs : List Int) (j : Nat) (h : isB xs) : isB (zea xs j) := by
 intro x hx
 simp [zea] at hx
 rcases hx with h1 | h1 | ⟨_, h1⟩
 ·exact h x h1
 ·omega
 ·omega
theorem shaPad_B {xs : List Int} (h : isB xs) : isB (zb1 xs) := by
 intro x hx
 rcases List.mem_append.1 hx with h1 | h1
 ·exact padTo_B _ _ h x h1
 ·exact be8_B _ x h1
def zbo (n : Nat) : Nat := n + 9 + padZ n
theorem zhA (xs : List Int) : (zb1 xs).length = zbo xs.length := by
 simp [zb1, padTo_len, be8, zbo]; omega
theorem padLen_64 (n : Nat) : zbo n % 64 = 0 := by unfold zbo padZ; omega
theorem zid (n : Nat) : padZ n < 64 := by unfold padZ; omega
def padE (n : Nat) : Int := if 1000 < n then 1 else 0
theorem ziy (n k : Nat) : IntKind.u8.wrap ((n : Int).fdiv (2 ^ k)) = ((n / 2 ^ k % 256 : Nat) : Int) := by
 rw [IntKind.wrap_u8, Int.fdiv_eq_ediv_of_nonneg _ (by exact Int.le_of_lt (Int.pow_pos (by omega)))]
 simp
theorem pad_s (n : Nat) (xs : List Int) (hn : xs.length = n) : Fn prog 141 [.p (.sl n 1 (bs xs))] (bRes (padE n)) (bNew (padE n) (zbo n) (zb1 xs)) := by
 refine fnI fun w0 A => ?_
 refine G [12, 9, 0] ?_
 refine cX (fun h => ?_) fun h => ?_
 ·exact jbx
 have h2 : n ≤ 1000 := by simp at h; omega
 clear h
 have hpz := zid n
 obtain ⟨e1, e2⟩ := zaW (show padE n = 0 by unfold padE; rw [if_neg (by omega)]) (zbo n) (zb1 xs)
 rw [e1, e2]
 clear e1 e2
 refine G [4] ?_
 refine zab (zbR 11 U62 eo5 (zbn) (by simp only [maxLen]; omega) (by omega)) rfl rfl ⟨rfl, trivial⟩ ?_
 refine jdA (zae 12 U62 sz5 zc5 (Nat.le_of_ble_eq_true rfl) (Nat.le_of_ble_eq_true rfl) rfl rfl rfl rfl (Nat.le_of_ble_eq_true rfl)) ?_
 refine zab (zal 13 U62 eo5 (zax) (by simp only [maxLen]; omega) (by omega) rfl rfl) rfl rfl ⟨rfl, rfl, rfl, trivial⟩ ?_
 refine G [4] ?_
 refine zag (fun m st => ∃ j : Nat, m + j = padZ n ∧ st = St.of [(0, .p (.sl n 1 (bs xs))), (4, .row 4)] [(4, .row 5 1 (n + 1 + j) (bs (zea xs j)))]) (padZ n) ?_ ?_
 ·exact ja9
 rintro m st ⟨j, hj, rfl⟩
 refine G [5] ?_
 refine jdd ?_
 refine G [2, 9, 0] ?_
 refine cX (fun h => ?_) fun h => ?_
 ·have hlt : j < padZ n := by
   simp at h; unfold padZ at *; omega
  clear h
  refine G [4] ?_
  refine jdA (zae 19 U62 sz5 zc5 (Nat.le_of_ble_eq_true rfl) (Nat.le_of_ble_eq_true rfl) rfl rfl rfl rfl (Nat.le_of_ble_eq_true rfl)) ?_
  refine zab (zal 20 U62 eo5 (zax) (by simp only [maxLen]; omega) (by omega) rfl rfl) rfl rfl ⟨rfl, rfl, rfl, trivial⟩ ?_
  refine G [2, 9, 0] ?_
  refine ⟨m - 1, by omega, _, zah (fun _ => 20) _ _ ?_ ?_ rfl, j + 1, by omega, rfl⟩
  ·exact jak
  ·rw [← zhK, ← zcr]
   exact ⟨⟨rfl, rfl⟩, trivial⟩
 have hge : j = padZ n := by
  simp at h; unfold padZ at *; omega
 clear h
 subst hge
 refine G [14] ?_
 refine zag (fun m st => ∃ k : Nat, m + k = 8 ∧ st = St.of [(4, .row 4), (5, .p (.v (.int .i64 (8 * n)))), (6, .p (.v (.int .i64 (7 - k))))] [(4, .row 5 1 (n + 1 + padZ n + k) (bs (zea xs (padZ n) ++ (be8 (8 * n)).take k)))]) 8 ?_ ?_
 ·refine jcS ?_ ?_
  ·exact jak
  ·rw [List.take_zero, List.append_nil]
   exact ⟨⟨rfl, rfl⟩, trivial⟩
 rintro m st ⟨k, hk, rfl⟩
 refine jcs ?_
 refine cX (fun h => ?_) fun h => ?_
 ·have hlt : k < 8 := by simp at h; omega
  clear h
  refine G [3] ?_
  have hv : IntKind.u8.wrap ((8 * (n : Int)).fdiv (2 ^ min (8 * (7 - (k : Int))).toNat IntKind.i64.bits)) = ((8 * n / 2 ^ (8 * (7 - k)) % 256 : Nat) : Int) := by
   have e1 : min (8 * (7 - (k : Int))).toNat IntKind.i64.bits = 8 * (7 - k) := by
    show min (8 * (7 - (k : Int))).toNat 64 = _
    omega
   rw [e1]
   exact ziy (8 * n) _
  refine G [5] ?_
  refine jcK ?_
  refine ⟨_, _, OkStep.run _ _ _ rfl (zbL U3 U5 hv) (by simp), ?_⟩
  refine jdA (zae 34 U62 sz5 zc5 (Nat.le_of_ble_eq_true rfl) (Nat.le_of_ble_eq_true rfl) rfl rfl rfl rfl (Nat.le_of_ble_eq_true rfl)) ?_
  refine zab (zal 35 U62 eo5 (zax) (by simp only [maxLen]; omega) (by omega) rfl rfl) rfl rfl ⟨rfl, rfl, rfl, trivial⟩ ?_
  refine jcq ?_
  refine ⟨m - 1, by omega, _, zah (fun _ => 35) _ _ ?_ ?_ rfl, k + 1, by omega, rfl⟩
  ·refine jdy ?_
   show AV.p (.v (.int .i64 (7 - (k : Int) - 1))) = AV.p (.v (.int .i64 (7 - ((k + 1 : Nat) : Int))))
   congr 3; omega
  ·rw [be8_take_succ _ _ hlt, ← List.append_assoc, ← zcr]
   exact ⟨⟨rfl, rfl⟩, trivial⟩
 have hge : k = 8 := by simp at h; omega
 clear h
 subst hge
 refine G [4] ?_
 refine zab (zbR 37 U62 eo5 (zax) (by simp only [maxLen]; omega) (by omega)) rfl rfl ⟨rfl, rfl, trivial⟩ ?_
 refine G [4] ?_
 have hp : zea xs (padZ n) ++ List.take 8 (be8 (8 * n)) = zb1 xs := by
  rw [List.take_of_length_le (by rw [be8_len]; omega), zb1, hn]
 have hl : zbo n = n + 1 + padZ n + 8 := by unfold zbo; omega
 rw [← hp, hl]
 refine yT (fun _ => 37) ?_ ?_
 ·exact rfl
 ·exact ⟨⟨rfl, rfl⟩, trivial⟩
theorem refPad_s (n : Nat) (xs : List Int) (hn : xs.length = n) : Fn prog 152 [.p (.sl n 1 (bs xs))] (bRes (padE n)) (bNew (padE n) (zbo n) (zb1 xs)) := by
 refine fnI fun w0 A => ?_
 refine G [12, 9, 0] ?_
 refine cX (fun h => ?_) fun h => ?_
 ·exact jbx
 have h2 : n ≤ 1000 := by simp at h; omega
 clear h
 have hpz := zid n
 obtain ⟨e1, e2⟩ := zaW (show padE n = 0 by unfold padE; rw [if_neg (by omega)]) (zbo n) (zb1 xs)
 rw [e1, e2]
 clear e1 e2
 refine G [3] ?_
 refine jdA (za0 9 U62 sz5) ?_
 refine jco ?_
 refine zab (zal 11 U62 eo5 (zbn) (by simp only [maxLen]; omega) (by omega) (Nat.zero_add n) rfl) rfl rfl ⟨rfl, rfl, trivial⟩ ?_
 refine jdA (zae 12 U62 sz5 zc5 (Nat.le_of_ble_eq_true rfl) (Nat.le_of_ble_eq_true rfl) rfl rfl rfl rfl (Nat.le_of_ble_eq_true rfl)) ?_
 refine zab (zal 13 U62 eo5 (zax) (by simp only [maxLen]; omega) (by omega) rfl rfl) rfl rfl ⟨rfl, rfl, rfl, trivial⟩ ?_
 refine G [4] ?_
 refine zag (fun m st => ∃ j : Nat, m + j = padZ n ∧ st = St.of [(0, .p (.sl n 1 (bs xs))), (4, .row 4)] [(4, .row 5 1 (n + 1 + j) (bs (zea xs j)))]) (padZ n) ?_ ?_
 ·exact ja9
 rintro m st ⟨j, hj, rfl⟩
 refine G [6] ?_
 refine jdd ?_
 refine G [2, 9, 0] ?_
 refine cX (fun h => ?_) fun h => ?_
 ·have hlt : j < padZ n := by
   simp at h; unfold padZ at *; omega
  clear h
  refine G [4] ?_
  refine jdA (zae 20 U62 sz5 zc5 (Nat.le_of_ble_eq_true rfl) (Nat.le_of_ble_eq_true rfl) rfl rfl rfl rfl (Nat.le_of_ble_eq_true rfl)) ?_
  refine zab (zal 21 U62 eo5 (zax) (by simp only [maxLen]; omega) (by omega) rfl rfl) rfl rfl ⟨rfl, rfl, rfl, trivial⟩ ?_
  refine G [2, 9, 0] ?_
  refine ⟨m - 1, by omega, _, zah (fun _ => 21) _ _ ?_ ?_ rfl, j + 1, by omega, rfl⟩
  ·exact jak
  ·rw [← zhK, ← zcr]
   exact ⟨⟨rfl, rfl⟩, trivial⟩
 have hge : j = padZ n := by
  simp at h; unfold padZ at *; omega
 clear h
 subst hge
 refine G [9] ?_
 have hp : zb1 xs = zea xs (padZ n) ++ [0, 0, 0, 0, IntKind.u8.wrap (((n : Int) * 8).fdiv (2 ^ 24)), IntKind.u8.wrap (((n : Int) * 8).fdiv (2 ^ 16)), IntKind.u8.wrap (((n : Int) * 8).fdiv (2 ^ 8)), IntKind.u8.wrap ((n : Int) * 8)] := by
  have e : ((n : Int) * 8) = ((8 * n : Nat) : Int) := by omega
  have e0 : IntKind.u8.wrap ((n : Int) * 8) = ((8 * n / 2 ^ 0 % 256 : Nat) : Int) := by rw [IntKind.wrap_u8, e]; simp
  rw [e0, e, ziy, ziy, ziy, zb1, hn]
  congr 1
  simp only [be8, List.range, List.range.loop, List.map_cons, List.map_nil]
  have z : ∀ k, 14 ≤ k → 8 * n / 2 ^ k % 256 = 0 := fun k hk => by
   rw [Nat.div_eq_of_lt]
   exact Nat.lt_of_lt_of_le (by omega : 8 * n < 2 ^ 14) (Nat.pow_le_pow_right (by omega) hk)
  rw [z (8 * (7 - 0)) (by omega), z (8 * (7 - 1)) (by omega), z (8 * (7 - 2)) (by omega), z (8 * (7 - 3)) (by omega)]
  rfl
 refine G [3] ?_
 refine jcK ?_
 refine G [2] ?_
 refine jcK ?_
 refine G [2] ?_
 refine jcK ?_
 refine G [3] ?_
 refine jdA (zae 37 U62 sz5 zc5 (Nat.le_of_ble_eq_true rfl) (Nat.le_of_ble_eq_true rfl) rfl rfl rfl rfl (Nat.le_of_ble_eq_true rfl)) ?_
 refine zab (zal 38 U62 eo5 (zax) (by simp only [maxLen]; omega) (by omega) rfl rfl) rfl rfl ⟨rfl, rfl, rfl, trivial⟩ ?_
 refine G [4] ?_
 have hl : zbo n = n + 1 + padZ n + 8 := by unfold zbo; omega
 rw [hp, hl, ← zbp]
 refine yT (fun _ => 38) ?_ ?_
 ·exact rfl
 ·exact ⟨⟨rfl, rfl⟩, trivial⟩
def ad (a b : Int) : Int := IntKind.u32.wrap (a + b)
def xr (a b : Int) : Int := bits .xor .u32 a b
def an (a b : Int) : Int := bits .and .u32 a b
def sr (x : Int) (k : Nat) : Int := x.fdiv (2 ^ k)
def rlS (n : Int) : Int := bits .and .u64 (IntKind.u64.wrap (IntKind.i64.wrap (0 - n))) 31
def rl (x n : Int) : Int := bits .or .u32 (IntKind.u32.wrap (x * 2 ^ min (rlS n).toNat 32)) (x.fdiv (2 ^ min (32 - rlS n).toNat 32))
theorem u64_and_bd (a : Int) : 0 ≤ bits .and .u64 a 31 ∧ bits .and .u64 a 31 ≤ 31 := by
 have h2 : (BitVec.ofInt 64 (31 : Int)).toNat = 31 := by decide
 have e : bits .and .u64 a 31 = IntKind.u64.wrap ((BitVec.ofInt 64 a &&& BitVec.ofInt 64 31).toNat : Int) := rfl
 rw [e, BitVec.toNat_and, h2]
 have h3 : (BitVec.ofInt 64 a).toNat &&& 31 ≤ 31 := Nat.and_le_right
 rw [IntWalk.u64_in _ (by omega)]
 omega
theorem rotL_s (x n : Int) : Fn prog 182 [.p (.v (.int .u32 x)), .p (.v (.int .i64 (IntKind.i64.wrap (0 - n))))] (.p (.v (.int .u32 (rl x n)))) [] := by
 have hb := u64_and_bd (IntKind.u64.wrap (IntKind.i64.wrap (0 - n)))
 change 0 ≤ rlS n ∧ rlS n ≤ 31 at hb
 refine fnI fun w0 A => ?_
 refine G [8] ?_
 refine zaa (zaU (by simp) (show _ = rlS n from rfl)) rfl rfl ?_
 refine G [6] ?_
 refine zaa (a_shl (by omega) (by first | exact IntWalk.u32_in _ (by omega) | rfl)) rfl rfl ?_
 refine G [3] ?_
 refine jcK ?_
 refine zaa (zaU (by simp) (show _ = rl x n from rfl)) rfl rfl ?_
 refine jcJ ?_
 exact yE
theorem zeJ (x n : Int) : Fn prog 172 [.p (.v (.int .u32 x)), .p (.v (.int .i64 n))] (.p (.v (.int .u32 (rl x n)))) [] := by
 exact jbG
theorem zb4 (x n : Int) : Fn prog 177 [.p (.v (.int .u32 x)), .p (.v (.int .i64 n))] (.p (.v (.int .u32 (rl x n)))) [] := by
 exact jbG
def iu (xs : List Int) : List AV := xs.map fun x => .p (.v (.int .u32 x))
def pu (xs : List Int) : List PV := xs.map fun x => .v (.int .u32 x)
@[simp] theorem iu_len (xs : List Int) : (iu xs).length = xs.length := by simp [iu]
@[simp] theorem pu_len (xs : List Int) : (pu xs).length = xs.length := by simp [pu]
theorem iu_at {xs : List Int} {i : Nat} {x : Int} (h : xs[i]? = some x) : (iu xs)[i]? = some (.p (.v (.int .u32 x))) := by simp [iu, h]
theorem pu_at {xs : List Int} {i : Nat} {x : Int} (h : xs[i]? = some x) : (pu xs)[i]? = some (.v (.int .u32 x)) := by simp [pu, h]
theorem iu_set {xs : List Int} {i : Nat} {x : Int} (h : i < xs.length) : setR (iu xs) i [.p (.v (.int .u32 x))] = iu (xs.set i x) := by
 rw [zh6 (by simpa using h), iu, iu, List.map_set]
theorem pu_set {xs : List Int} {i : Nat} {x : Int} (h : i < xs.length) : setR (pu xs) i [.v (.int .u32 x)] = pu (xs.set i x) := by
 rw [zh6 (by simpa using h), pu, pu, List.map_set]
theorem pu_push {xs : List Int} {x : Int} : pu xs ++ [.v (.int .u32 x)] = pu (xs ++ [x]) := by simp [pu]
def RK : List Int := 1116352408 :: 1899447441 :: 3049323471 :: 3921009573 :: 961987163 :: 1508970993 :: 2453635748 :: 2870763221 :: 3624381080 :: 310598401 :: 607225278 :: 1426881987 :: 1925078388 :: 2162078206 :: 2614888103 :: 3248222580 :: 3835390401 :: 4022224774 :: 264347078 :: 604807628 :: 770255983 :: 1249150122 :: 1555081692 :: 1996064986 :: 2554220882 :: 2821834349 :: 2952996808 :: 3210313671 :: 3336571891 :: 3584528711 :: 113926993 :: 338241895 :: 666307205 :: 773529912 :: 1294757372 :: 1396182291 :: 1695183700 :: 1986661051 :: 2177026350 :: 2456956037 :: 2730485921 :: 2820302411 :: 3259730800 :: 3345764771 :: 3516065817 :: 3600352804 :: 4094571909 :: 275423344 :: 430227734 :: 506948616 :: 659060556 :: 883997877 :: 958139571 :: 1322822218 :: 1537002063 :: 1747873779 :: 1955562222 :: 2024104815 :: 2227730452 :: 2361852424 :: 2428436474 :: 2756734187 :: 3204031479 :: 3329325298 :: []
theorem rounds_s : Fn prog 170 [] (.agg (iu RK)) [] := by
 refine fnI fun w0 A => ?_
 refine G [6] ?_
 refine zaa (xs := iu RK) (zcV (es := iu RK) U228 zr228 rfl sz86 (by kernel_rfl)) (by kernel_rfl) rfl ?_
 refine jcJ ?_
 exact yE
theorem refRounds_s : Fn prog 153 [] (.row 0) [(0, .row 86 1 64 (pu RK))] := by
 refine fnI fun w0 A => ?_
 refine G [6] ?_
 refine zab (xs := iu RK) (zae (es := iu RK) (cs := pu RK) 1 U213 sz86 zc86 (Nat.le_of_ble_eq_true rfl) (Nat.le_of_ble_eq_true rfl) rfl (by kernel_rfl) (by kernel_rfl) (by kernel_rfl) (Nat.le_of_ble_eq_true rfl)) (by kernel_rfl) rfl ⟨rfl, trivial⟩ ?_
 refine jcJ ?_
 refine yT (fun _ => 1) ?_ ?_
 ·exact rfl
 ·exact ⟨⟨rfl, rfl⟩, trivial⟩
def acc (l : List Int) : Int := l.foldl (fun a b => a * 256 + b) 0
theorem acc_push (l : List Int) (x : Int) : acc (l ++ [x]) = acc l * 256 + x := by simp [acc]
theorem acc_bd : ∀ (n : Nat) (l : List Int), l.length = n → isB l → 0 ≤ acc l ∧ acc l < 256 ^ n
 | 0, l, hl, _ => by
  obtain rfl := List.eq_nil_of_length_eq_zero hl
  simp [acc]
 | n + 1, l, hl, hb => by
  obtain ⟨l', x, rfl⟩ : ∃ l' x, l = l' ++ [x] := ⟨l.dropLast, l.getLast (by intro h; subst h; simp at hl), (List.dropLast_concat_getLast _).symm⟩
  obtain ⟨h1, h2⟩ := acc_bd n l' (by simpa using hl) fun y hy => hb y (by simp [hy])
  have h3 := hb x (by simp)
  rw [acc_push, Int.pow_succ]
  omega
def wd (xs : List Int) (i j : Nat) : Int := acc (((xs.take i).drop (4 * j)).take 4)
def wp (xs : List Int) (i : Nat) : List Int := (List.range 16).map (wd xs i)
theorem wp_len (xs : List Int) (i : Nat) : (wp xs i).length = 16 := by simp [wp]
theorem wp_zero (xs : List Int) : wp xs 0 = List.replicate 16 0 := by
 simp [wp, wd, acc]; rfl
theorem wp_at {xs : List Int} {i : Nat} (hi : i < 64) : (wp xs i)[i / 4]? = some (wd xs i (i / 4)) := by
 have : i / 4 < 16 := by omega
 simp [wp, this]
theorem wd_next {xs : List Int} {i : Nat} {x : Int} (hx : xs[i]? = some x) : wd xs (i + 1) (i / 4) = wd xs i (i / 4) * 256 + x := by
 have hi : i < xs.length := (List.getElem?_eq_some_iff.1 hx).1
 have e : xs[i] = x := (List.getElem?_eq_some_iff.1 hx).2
 unfold wd
 rw [← acc_push, List.take_succ_eq_append_getElem hi, List.drop_append_of_le_length (by rw [List.length_take]; omega), e]
 have hl : ((xs.take i).drop (4 * (i / 4))).length ≤ 3 := by rw [List.length_drop, List.length_take]; omega
 generalize List.drop (4 * (i / 4)) (List.take i xs) = L at hl ⊢
 have a1 : (L ++ [x]).take 4 = L ++ [x] := List.take_of_length_le (by simp; omega)
 have a2 : L.take 4 = L := List.take_of_length_le (by omega)
 rw [a1, a2]
theorem wd_other {xs : List Int} {i j : Nat} (hj : j ≠ i / 4) : wd xs (i + 1) j = wd xs i j := by
 unfold wd
 congr 1
 refine List.ext_getElem? fun k => ?_
 simp only [List.getElem?_take, List.getElem?_drop]
 by_cases hk : k < 4
 ·rw [if_pos hk, if_pos hk]
  by_cases h1 : 4 * j + k < i
  ·rw [if_pos h1, if_pos (by omega)]
  ·rw [if_neg h1, if_neg (by omega)]
 ·rw [if_neg hk, if_neg hk]
theorem wp_step {xs : List Int} {i : Nat} {x : Int} (hi : i < 64) (hx : xs[i]? = some x) : (wp xs i).set (i / 4) (wd xs i (i / 4) * 256 + x) = wp xs (i + 1) := by
 apply List.ext_getElem (by simp [wp])
 intro j h1 h2
 have hj : j < 16 := by simpa [wp] using h2
 rw [List.getElem_set]
 split
 ·rename_i e
  subst e
  simp [wp, wd_next hx]
 ·rename_i e
  simp only [wp, List.getElem_map, List.getElem_range]
  exact (wd_other (Ne.symm e)).symm
theorem wd_bd {xs : List Int} {i : Nat} (hb : isB xs) : 0 ≤ wd xs i (i / 4) ∧ wd xs i (i / 4) < 16777216 := by
 have h := acc_bd _ (((xs.take i).drop (4 * (i / 4))).take 4) rfl fun y hy => hb y (List.mem_of_mem_take (List.mem_of_mem_drop (List.mem_of_mem_take hy)))
 refine ⟨h.1, Int.lt_of_lt_of_le h.2 ?_⟩
 have hl : (((xs.take i).drop (4 * (i / 4))).take 4).length ≤ 3 := by
  rw [List.length_take, List.length_drop, List.length_take]; omega
 have : (256 : Int) ^ (((xs.take i).drop (4 * (i / 4))).take 4).length ≤ 256 ^ 3 := by
  exact_mod_cast Nat.pow_le_pow_right (n := 256) (by omega) hl
 exact this
theorem or_byte {a x : Int} (ha : 0 ≤ a ∧ a < 16777216) (hx : 0 ≤ x ∧ x < 256) : bits .or .u32 (a * 256) x = a * 256 + x := by
 obtain ⟨n, rfl⟩ := Int.eq_ofNat_of_zero_le ha.1
 obtain ⟨m, rfl⟩ := Int.eq_ofNat_of_zero_le hx.1
 have e : bits .or .u32 ((n : Int) * 256) (m : Int) = IntKind.u32.wrap ((BitVec.ofInt 32 ((n : Int) * 256) ||| BitVec.ofInt 32 (m : Int)).toNat : Int) := rfl
 have e1 : (n : Int) * 256 = ((n * 256 : Nat) : Int) := by omega
 have h1 : (BitVec.ofInt 32 ((n : Int) * 256)).toNat = n * 256 := by
  rw [e1, BitVec.ofInt_natCast, BitVec.toNat_ofNat]; exact Nat.mod_eq_of_lt (by omega)
 have h2 : (BitVec.ofInt 32 (m : Int)).toNat = m := by
  exact ja6
 rw [e, BitVec.toNat_or, h1, h2]
 have h3 : n * 256 ||| m = n * 256 + m := by
  have := Nat.shiftLeft_add_eq_or_of_lt (b := m) (i := 8) (by omega) n
  rw [Nat.shiftLeft_eq] at this
  exact this.symm
 rw [h3, IntWalk.u32_in _ (by omega)]
 omega
def s0 (a : Int) : Int := xr (xr (rl a 7) (rl a 18)) (sr a 3)
def s1 (b : Int) : Int := xr (xr (rl b 17) (rl b 19)) (sr b 10)
def nx (l : List Int) (t : Nat) : Int := ad (ad (ad (l.getD (t - 16) 0) (s0 (l.getD (t - 15) 0))) (l.getD (t - 7) 0)) (s1 (l.getD (t - 2) 0))
def ext (l : List Int) : Nat → List Int
 | 0 => l
 | k + 1 => ext l k ++ [nx (ext l k) (16 + k)]
theorem zei {l : List Int} (h : l.length = 16) : ∀ k, (ext l k).length = 16 + k
 | 0 => h
 | k + 1 => by simp only [ext, List.length_append, zei h k]; rfl
def wds (xs : List Int) : List Int := ext (wp xs 64) 48
theorem wds_len (xs : List Int) : (wds xs).length = 64 := zei (wp_len _ _) 48
def exz (W : List Int) (k : Nat) : List Int := ext W k ++ List.replicate (48 - k) 0
theorem exz_len {W : List Int} (h : W.length = 16) {k : Nat} (hk : k ≤ 48) : (exz W k).length = 64 := by
 rw [exz, List.length_append, zei h, List.length_replicate]; omega
theorem exz_at {W : List Int} (h : W.length = 16) {k j : Nat} (hj : j < 16 + k) : (iu (exz W k))[j]? = some (.p (.v (.int .u32 ((ext W k).getD j 0)))) := by
 have h1 : j < (ext W k).length := by rw [zei h]; exact hj
 refine iu_at ?_
 rw [exz, List.getElem?_append_left h1, List.getD_eq_getElem?_getD, List.getElem?_eq_getElem h1]; rfl
theorem exz_set {W : List Int} (h : W.length = 16) {k : Nat} (hk : k < 48) : setR (iu (exz W k)) (16 + k) [.p (.v (.int .u32 (nx (ext W k) (16 + k))))] = iu (exz W (k + 1)) := by
 rw [iu_set (by rw [exz_len h (by omega)]; omega), exz, List.set_append_right _ _ (by rw [zei h]; omega), zei h, Nat.sub_self]
 obtain ⟨m, hm⟩ : ∃ m, 48 - k = m + 1 := ⟨47 - k, by omega⟩
 rw [hm, List.replicate_succ, List.set_cons_zero, exz, ext, show 48 - (k + 1) = m by omega, List.append_assoc]; rfl
theorem zcy (K : List Nat) : ∀ xs : List Int, AV.okInL K (iu xs) = true
 | [] => rfl
 | x :: xs => by simp only [iu, List.map_cons, AV.okInL, AV.okIn, Bool.true_and]; exact zcy K xs
theorem iu_ren (ρ : Nat → Nat) : ∀ xs : List Int, AV.renL ρ (iu xs) = iu xs
 | [] => rfl
 | x :: xs => by
  have := iu_ren ρ xs
  simp only [iu, List.map_cons, AV.renL, AV.ren] at this ⊢
  rw [this]
theorem zin (K : Nat → Bool) (h : Nat → Slot) : ∀ xs : List Int, AV.viewL K h (iu xs) = iu xs
 | [] => rfl
 | x :: xs => by
  have := zin K h xs
  simp only [iu, List.map_cons, AV.viewL, AV.view] at this ⊢
  rw [this]
theorem iu_view (K : Nat → Bool) (h : Nat → Slot) (ρ : Nat → Nat) (xs : List Int) : (AV.agg (iu xs)).view K h = (AV.agg (iu xs)).ren ρ := by rw [AV.view, AV.ren, zin, iu_ren]
theorem zbl {h : Slot} {ty : TypeId} {ρ : Nat → Nat} {xs : List Int} (e : h = .live (.box ty (iu xs))) : h = .live ((AObj.box ty (iu xs)).ren ρ) := by rw [e, AObj.ren, iu_ren]
theorem shwords_s (xs : List Int) (hl : xs.length = 64) (hb : isB xs) : Fn prog 171 [.p (.sl 64 1 (bs xs))] (.agg (iu (wds xs))) [] := by
 refine zb7 func171 rfl (Nat.le_of_ble_eq_true rfl) fun w0 A => ?_
 refine zad (tx (jdA (zaX 2 zr228 rfl) ?_))
 refine zac (zad (tx (jdA (zaX 3 zr228 rfl) ?_)))
 refine zac (zad (zad (tx (jco ?_))))
 refine jdz (zdu U62) ?_
 refine jco ?_
 refine zac (zao (zag (fun m st => ∃ k : Nat, m + k = 64 ∧ st = St.of [(2, .ref 2 0), (3, .ref 3 0), (9, .p (.sl 64 1 (bs xs))), (10, .p (.v (.int .i64 64))), (11, .p (.v (.int .i64 k)))] [(2, .box 228 (iu (List.replicate 64 0))), (3, .box 228 (iu (wp xs k ++ List.replicate 48 0)))]) 64 ?_ ?_))
 ·refine jcS ?_ ?_
  ·exact jak
  ·rw [wp_zero]
   exact ⟨⟨rfl, rfl⟩, ⟨rfl, rfl⟩, trivial⟩
 rintro m st ⟨k, hk, rfl⟩
 refine zad (tx (jcY ?_))
 refine zac (zad (zaJ _ rfl (fun h => ?_) (fun h => ?_)))
 ·have hlt : k < 64 := by simp at h; omega
  clear h
  obtain ⟨x, hx⟩ : ∃ x, xs[k]? = some x := ⟨xs[k]'(by omega), List.getElem?_eq_getElem (by omega)⟩
  have hxb := hb x (List.mem_of_getElem? hx)
  have g1 := ziz hx
  have hwb := wd_bd (i := k) hb
  have hlen := wp_len xs k
  refine jcW ?_
  refine tx (jco ?_)
  refine zaa (zaM U62 sz5 (by omega) (by omega) rfl) rfl rfl ?_
  refine zaa (zaG U5 rfl (by first | rfl | assumption | ((try simp only [List.getElem?_drop, List.getElem?_take, Int.toNat_natCast, Nat.mul_one, Nat.add_zero, Nat.zero_add]); first | assumption | rfl))) rfl rfl ?_
  refine jcA ?_
  refine jcA ?_
  refine zac (zaz ?_)
  have g2 : (iu (wp xs k ++ List.replicate 48 0))[k / 4]? = some (.p (.v (.int .u32 (wd xs k (k / 4))))) := iu_at (by rw [List.getElem?_append_left (by rw [hlen]; omega)]; exact wp_at hlt)
  have g3 : IntKind.u32.wrap (wd xs k (k / 4) * 2 ^ min (8 : Int).toNat IntKind.u32.bits) = wd xs k (k / 4) * 256 := by
   rw [show (2 : Int) ^ min (8 : Int).toNat IntKind.u32.bits = 256 from rfl]
   exact IntWalk.u32_in _ (by omega)
  have g4 : setR (iu (wp xs k ++ List.replicate 48 0)) (k / 4) [.p (.v (.int .u32 (wd xs k (k / 4) * 256 + x)))] = iu (wp xs (k + 1) ++ List.replicate 48 0) := by
   rw [iu_set (by simp [hlen]; omega), List.set_append_left _ _ (by rw [hlen]; omega), wp_step hlt hx]
  have g5 : (iu (wp xs k ++ List.replicate 48 0)).length = 64 := by simp [hlen]
  refine tx (jco ?_)
  refine jcy ?_
  refine jco ?_
  refine jcy ?_
  refine zaa (zaj U228 sz86 (by omega) (by omega) (show 0 + _ = k / 4 by omega)) rfl rfl ?_
  refine jcz ?_
  refine zaa (a_shl (by omega) g3) rfl rfl ?_
  refine jco ?_
  refine zaa (zbL U5 U86 (by first | exact IntWalk.u32_in _ (by omega) | rfl)) rfl rfl ?_
  refine zaa (zaU (by simp) (or_byte hwb hxb)) rfl rfl ?_
  refine zaa (zaj U228 sz86 (by omega) (by omega) (show 0 + _ = k / 4 by omega)) rfl rfl ?_
  refine zab (zb3 (Y := .p _) sz86 rfl (by first | exact Nat.eq_of_beq_eq_true rfl | (simp only [AV.cells, List.length_map]; first | assumption | omega)) (by first | exact Nat.le_of_ble_eq_true rfl | omega | (simp only [AV.cells, List.length_map]; omega)) g4) rfl rfl ⟨rfl, trivial⟩ ?_
  refine zac (zbz (zaz (tx (jcu ?_))))
  refine jco ?_
  refine zac (zaz (jcG ?_ ?_))
  ·exact jak
  ·exact jb8
 have hge : k = 64 := by simp at h; omega
 clear h
 subst hge
 refine zaN (zad (zad (tx (jcA ?_))))
 refine zac (zao ?_)
 have hW := wp_len xs 64
 refine zag (fun m st => ∃ k : Nat, m + k = 48 ∧ st = St.of [(2, .ref 2 0), (3, .ref 3 0), (6, .p (.v (.int .i64 (16 + k))))] [(2, .box 228 (iu (List.replicate 64 0))), (3, .box 228 (iu (exz (wp xs 64) k)))]) 48 ?_ ?_
 ·refine jcS ?_ ?_
  ·exact jak
  ·exact jb8
 rintro m st ⟨k, hk, rfl⟩
 refine zad (zad (tx (jco ?_)))
 refine jcY ?_
 refine zac (zaz (zaJ _ rfl (fun h => ?_) (fun h => ?_)))
 ·have hlt : k < 48 := by simp at h; omega
  clear h
  have g15 := exz_at (k := k) hW (j := 16 + k - 15) (by omega)
  have g16 := exz_at (k := k) hW (j := 16 + k - 16) (by omega)
  have g7 := exz_at (k := k) hW (j := 16 + k - 7) (by omega)
  have g2 := exz_at (k := k) hW (j := 16 + k - 2) (by omega)
  have gs := exz_set (k := k) hW hlt
  have gl : (iu (exz (wp xs 64) k)).length = 64 := by rw [iu_len]; exact exz_len hW (by omega)
  refine jcW ?_
  refine zbA 4 (by kernel_rfl) ?_
  refine jco ?_
  refine jdt ?_
  refine zaa (zaj U228 sz86 (by omega) (by omega) (show 0 + _ = 16 + k - 15 by omega)) rfl rfl ?_
  refine jcz ?_
  refine jco ?_
  refine jdt ?_
  refine zaa (zaj U228 sz86 (by omega) (by omega) (show 0 + _ = 16 + k - 2 by omega)) rfl rfl ?_
  refine jcz ?_
  refine jcA ?_
  refine jcA ?_
  refine zac ⟨by kernel_rfl, ?_⟩
  refine zaz (zbA 4 (by kernel_rfl) ?_)
  refine jco ?_
  refine jco ?_
  refine jdt ?_
  refine zaa (zaj U228 sz86 (by omega) (by omega) (show 0 + _ = 16 + k - 16 by omega)) rfl rfl ?_
  refine jcz ?_
  refine jco ?_
  refine zaR (fun n => 46 + 1000 * n) (zeJ _ _) rfl rfl F172 rfl rfl (by first | rfl | simp [AV.noSl, AV.noSlL, AObj.noSl, PV.isV, zaH]) (by first | rfl | simp [AV.noSl, AV.noSlL, AObj.noSl, PV.isV, zaH]) rfl rfl rfl (by first | exact trivial | exact ⟨rfl, trivial⟩ | exact ⟨rfl, rfl, trivial⟩ | exact ⟨rfl, rfl, rfl, rfl, rfl, trivial⟩) rfl rfl rfl ?_
  refine jco ?_
  refine zaR (fun n => 48 + 1000 * n) (zeJ _ _) rfl rfl F172 rfl rfl (by first | rfl | simp [AV.noSl, AV.noSlL, AObj.noSl, PV.isV, zaH]) (by first | rfl | simp [AV.noSl, AV.noSlL, AObj.noSl, PV.isV, zaH]) rfl rfl rfl (by first | exact trivial | exact ⟨rfl, trivial⟩ | exact ⟨rfl, rfl, trivial⟩ | exact ⟨rfl, rfl, rfl, rfl, rfl, trivial⟩) rfl rfl rfl ?_
  refine jcx ?_
  refine jco ?_
  refine jcK ?_
  refine jcx ?_
  refine jcX ?_
  refine jco ?_
  refine jdt ?_
  refine zaa (zaj U228 sz86 (by omega) (by omega) (show 0 + _ = 16 + k - 7 by omega)) rfl rfl ?_
  refine jcz ?_
  refine jcX ?_
  refine jco ?_
  refine zaR (fun n => 60 + 1000 * n) (zeJ _ _) rfl rfl F172 rfl rfl (by first | rfl | simp [AV.noSl, AV.noSlL, AObj.noSl, PV.isV, zaH]) (by first | rfl | simp [AV.noSl, AV.noSlL, AObj.noSl, PV.isV, zaH]) rfl rfl rfl (by first | exact trivial | exact ⟨rfl, trivial⟩ | exact ⟨rfl, rfl, trivial⟩ | exact ⟨rfl, rfl, rfl, rfl, rfl, trivial⟩) rfl rfl rfl ?_
  refine jco ?_
  refine zaR (fun n => 62 + 1000 * n) (zeJ _ _) rfl rfl F172 rfl rfl (by first | rfl | simp [AV.noSl, AV.noSlL, AObj.noSl, PV.isV, zaH]) (by first | rfl | simp [AV.noSl, AV.noSlL, AObj.noSl, PV.isV, zaH]) rfl rfl rfl (by first | exact trivial | exact ⟨rfl, trivial⟩ | exact ⟨rfl, rfl, trivial⟩ | exact ⟨rfl, rfl, rfl, rfl, rfl, trivial⟩) rfl rfl rfl ?_
  refine jcx ?_
  refine jco ?_
  refine jcK ?_
  refine jcx ?_
  refine jcX ?_
  refine zaa (zaj U228 sz86 (by omega) (by omega) (show 0 + _ = 16 + k by omega)) rfl rfl ?_
  refine zab (zb3 (Y := .p _) sz86 rfl (by first | exact Nat.eq_of_beq_eq_true rfl | (simp only [AV.cells, List.length_map]; first | assumption | omega)) (by first | exact Nat.le_of_ble_eq_true rfl | omega | (simp only [AV.cells, List.length_map]; omega)) gs) rfl rfl ⟨rfl, trivial⟩ ?_
  refine zac ⟨by kernel_rfl, ?_⟩
  refine zbz (zaz (tx (jco ?_)))
  refine jcu ?_
  refine jcA ?_
  refine zac (zaz (jcG ?_ ?_))
  ·refine jdy ?_
   show AV.p (.v (.int .i64 (16 + (k : Int) + 1))) = AV.p (.v (.int .i64 (16 + ((k + 1 : Nat) : Int))))
   congr 3 <;> omega
  ·exact jb8
 have hge : k = 48 := by simp at h; omega
 clear h
 subst hge
 have he : exz (wp xs 64) 48 = wds xs := by simp [exz, wds]
 rw [he]
 have gl := wds_len xs
 generalize wds xs = D at gl ⊢
 have gl2 : (iu D).length = 64 := by rw [iu_len]; exact gl
 refine zaN (zad (tx (lN U228 rfl sz228 rfl rfl ⟨rfl, trivial⟩ ?_)))
 refine jcN ?_
 refine zac (zaE (⟨(by first | exact .inl rfl | exact .inr rfl), _, (fun o => o), (.cellN _ _ _ _ _ _ _ _ _ rfl rfl U228 rfl sz228 (by first | assumption | kernel_rfl) .nil), ?_, zcy _ _, ?_, rfl⟩))
 ·exact iu_view _ _ _ _
 ·exact trivial
theorem iuA_ren (ρ : Nat → Nat) (xs : List Int) : (AV.agg (iu xs)).ren ρ = .agg (iu xs) := congrArg AV.agg (iu_ren ρ xs)
structure V8 where
 a : Int
 b : Int
 c : Int
 d : Int
 e : Int
 f : Int
 g : Int
 h : Int
def V8.l (v : V8) : List Int := [v.a, v.b, v.c, v.d, v.e, v.f, v.g, v.h]
def nt (e : Int) : Int := bits .xor .u32 (if IntKind.u32.signed then -1 else IntKind.u32.max) e
def ch (e f g : Int) : Int := xr (an e f) (an (nt e) g)
def mj (a b c : Int) : Int := xr (xr (an a b) (an a c)) (an b c)
def shOne (k w : Int) (v : V8) : Int := ad (ad (ad (ad v.h (xr (xr (rl v.e 6) (rl v.e 11)) (rl v.e 25))) (ch v.e v.f v.g)) k) w
def two (v : V8) : Int := ad (xr (xr (rl v.a 2) (rl v.a 13)) (rl v.a 22)) (mj v.a v.b v.c)
def rnd (k w : Int) (v : V8) : V8 := ⟨ad (shOne k w v) (two v), v.a, v.b, v.c, ad v.d (shOne k w v), v.e, v.f, v.g⟩
def rn (K W : List Int) (v : V8) : Nat → V8
 | 0 => v
 | t + 1 => rnd (K.getD t 0) (W.getD t 0) (rn K W v t)
def V8.plus (v h : V8) : V8 := ⟨ad v.a h.a, ad v.b h.b, ad v.c h.c, ad v.d h.d, ad v.e h.e, ad v.f h.f, ad v.g h.g, ad v.h h.h⟩
def blk8 (h : V8) (xs : List Int) : V8 := (rn RK (wds xs) h 64).plus h
theorem zio {xs : List Int} {i : Nat} (h : i < xs.length) : (iu xs)[i]? = some (.p (.v (.int .u32 (xs.getD i 0)))) :=
 iu_at (by rw [List.getD_eq_getElem?_getD, List.getElem?_eq_getElem h]; rfl)
def mx8 (v h : V8) (k : Nat) : List Int := (v.plus h).l.take k ++ v.l.drop k
theorem mx8_step (v h : V8) : ∀ k, k < 8 → (iu (mx8 v h k))[k]? = some (.p (.v (.int .u32 (v.l.getD k 0)))) ∧ setR (iu (mx8 v h k)) k [.p (.v (.int .u32 (ad (v.l.getD k 0) (h.l.getD k 0))))] = iu (mx8 v h (k + 1)) := by
 intro k hk
 match k, hk with
 | 0, _ => exact ⟨rfl, rfl⟩
 | 1, _ => exact ⟨rfl, rfl⟩
 | 2, _ => exact ⟨rfl, rfl⟩
 | 3, _ => exact ⟨rfl, rfl⟩
 | 4, _ => exact ⟨rfl, rfl⟩
 | 5, _ => exact ⟨rfl, rfl⟩
 | 6, _ => exact ⟨rfl, rfl⟩
 | 7, _ => exact ⟨rfl, rfl⟩
theorem mx8_len (v h : V8) (k : Nat) : (iu (mx8 v h k)).length = 8 := by
 rw [iu_len, mx8, List.length_append, List.length_take, List.length_drop]
 show min k 8 + (8 - k) = 8
 omega
theorem block_s (v0 : V8) (xs : List Int) (hl : xs.length = 64) (hb : isB xs) : Fn prog 142 [.agg (iu v0.l), .p (.sl 64 1 (bs xs))] (.agg (iu (blk8 v0 xs).l)) [] := by
 refine zb7 func142 rfl (Nat.le_of_ble_eq_true rfl) fun w0 A => ?_
 refine zad (tx (jdA (a_box (X := .agg _) 2 rfl) ?_))
 refine jdA (zaX 4 zr206 rfl) ?_
 refine zac ?_
 (repeat (first | refine zad ?_ | refine zao ?_ | refine zap ?_ | refine zaE ?_ | refine zaN ?_ | refine zaz ?_ | refine zbG ?_ | refine zct ?_ | refine zbz ?_ | refine zcz ?_ | refine zcR ?_ | refine zdX rfl ?_))
 have hw := shwords_s xs hl hb
 have hwl := wds_len xs
 have hwl2 : (iu (wds xs)).length = 64 := by rw [iu_len]; exact hwl
 unfold blk8
 generalize wds xs = W at hw hwl hwl2 ⊢
 refine zbA 4 (by kernel_rfl) ?_
 refine zaR (fun n => 14 + 1000 * n) (rounds_s) rfl rfl func170 rfl rfl (by first | rfl | simp [AV.noSl, AV.noSlL, AObj.noSl, PV.isV, zaH]) (by first | rfl | simp [AV.noSl, AV.noSlL, AObj.noSl, PV.isV, zaH]) rfl rfl rfl (by first | exact trivial | exact ⟨rfl, trivial⟩ | exact ⟨rfl, rfl, trivial⟩ | exact ⟨rfl, rfl, rfl, rfl, rfl, trivial⟩) rfl rfl rfl ?_
 refine jco ?_
 refine zbO (fun n => 16 + 1000 * n) (hw) rfl rfl func171 rfl rfl (by first | rfl | simp [AV.okInL, AV.okIn, zay]) (zcy _ _) rfl rfl (by first | exact trivial | exact ⟨rfl, trivial⟩ | exact ⟨rfl, rfl, trivial⟩ | exact ⟨rfl, rfl, rfl, rfl, rfl, trivial⟩) rfl (iuA_ren _ _) rfl ?_
 refine lN U206 rfl sz206 rfl rfl ⟨rfl, trivial⟩ ?_
 refine jdA (zaX 5 zr228 rfl) ?_
 refine jdA (zaX 6 zr228 rfl) ?_
 refine jdA (zaX 7 zr206 rfl) ?_
 refine jcN ?_
 refine jcN ?_
 refine jcO ?_
 refine zac ⟨by kernel_rfl, ?_⟩
 refine zad (zad (tx (jco ?_)))
 refine zac (zao (zag (fun m st => ∃ k : Nat, m + k = 64 ∧ st = St.of [(2, .ref 2 0), (4, .ref 4 0), (5, .ref 5 0), (6, .ref 6 0), (7, .ref 7 0), (18, .p (.v (.int .i64 k)))] [(2, .box 206 (iu v0.l)), (4, .box 206 (iu (List.replicate 8 0))), (5, .box 228 (iu RK)), (6, .box 228 (iu W)), (7, .box 206 (iu (rn RK W v0 k).l))]) 64 ?_ ?_))
 ·refine jcS ?_ ?_
  ·exact jak
  ·exact jbZ
 rintro m st ⟨k, hk, rfl⟩
 refine zad (tx (jcY ?_))
 refine zac (zad (zaJ _ rfl (fun h => ?_) (fun h => ?_)))
 ·have hlt : k < 64 := by simp at h; omega
  clear h
  have gk := zio (xs := RK) (i := k) hlt
  have gw := zio (xs := W) (i := k) (by omega)
  have hs : (rn RK W v0 (k + 1)).l = (rnd (RK.getD k 0) (W.getD k 0) (rn RK W v0 k)).l := rfl
  generalize rn RK W v0 k = v at hs ⊢
  generalize RK.getD k 0 = ck at gk hs
  generalize W.getD k 0 = wk at gw hs
  refine jcW ?_
  refine tx (jco ?_)
  refine jcA ?_
  refine zac (zad (zbA 4 (by kernel_rfl) ?_))
  refine jcp ?_
  refine jcz ?_
  refine jcp ?_
  refine jcz ?_
  refine jcA ?_
  refine jcA ?_
  refine zac ⟨by kernel_rfl, ?_⟩
  (repeat (first | refine zad ?_ | refine zao ?_ | refine zap ?_ | refine zaE ?_ | refine zaN ?_ | refine zaz ?_ | refine zbG ?_ | refine zct ?_ | refine zbz ?_ | refine zcz ?_ | refine zcR ?_ | refine zdX rfl ?_))
  refine zbA 4 (by kernel_rfl) ?_
  refine jcp ?_
  refine jcz ?_
  refine jco ?_
  refine zaR (fun n => 28 + 1000 * n) (zeJ _ _) rfl rfl F172 rfl rfl (by first | rfl | simp [AV.noSl, AV.noSlL, AObj.noSl, PV.isV, zaH]) (by first | rfl | simp [AV.noSl, AV.noSlL, AObj.noSl, PV.isV, zaH]) rfl rfl rfl (by first | exact trivial | exact ⟨rfl, trivial⟩ | exact ⟨rfl, rfl, trivial⟩ | exact ⟨rfl, rfl, rfl, rfl, rfl, trivial⟩) rfl rfl rfl ?_
  refine jco ?_
  refine zaR (fun n => 30 + 1000 * n) (zeJ _ _) rfl rfl F172 rfl rfl (by first | rfl | simp [AV.noSl, AV.noSlL, AObj.noSl, PV.isV, zaH]) (by first | rfl | simp [AV.noSl, AV.noSlL, AObj.noSl, PV.isV, zaH]) rfl rfl rfl (by first | exact trivial | exact ⟨rfl, trivial⟩ | exact ⟨rfl, rfl, trivial⟩ | exact ⟨rfl, rfl, rfl, rfl, rfl, trivial⟩) rfl rfl rfl ?_
  refine jcx ?_
  refine jco ?_
  refine zaR (fun n => 33 + 1000 * n) (zeJ _ _) rfl rfl F172 rfl rfl (by first | rfl | simp [AV.noSl, AV.noSlL, AObj.noSl, PV.isV, zaH]) (by first | rfl | simp [AV.noSl, AV.noSlL, AObj.noSl, PV.isV, zaH]) rfl rfl rfl (by first | exact trivial | exact ⟨rfl, trivial⟩ | exact ⟨rfl, rfl, trivial⟩ | exact ⟨rfl, rfl, rfl, rfl, rfl, trivial⟩) rfl rfl rfl ?_
  refine jcx ?_
  refine jcX ?_
  refine jco ?_
  refine jcp ?_
  refine jcz ?_
  refine jcx ?_
  refine jco ?_
  refine jdz (a_inv rfl) ?_
  refine jcp ?_
  refine jcz ?_
  refine jcx ?_
  refine jcx ?_
  refine jcX ?_
  refine jco ?_
  refine zaa (zaj U228 sz86 (by omega) (by omega) (show 0 + _ = k by omega)) rfl rfl ?_
  refine jcz ?_
  refine jcX ?_
  refine jco ?_
  refine zaa (zaj U228 sz86 (by omega) (by omega) (show 0 + _ = k by omega)) rfl rfl ?_
  refine jcz ?_
  refine jdz (za3 (show _ = shOne ck wk v from rfl)) ?_
  refine jcA ?_
  refine zac ⟨by kernel_rfl, ?_⟩
  (repeat (first | refine zad ?_ | refine zao ?_ | refine zap ?_ | refine zaE ?_ | refine zaN ?_ | refine zaz ?_ | refine zbG ?_ | refine zct ?_ | refine zbz ?_ | refine zcz ?_ | refine zcR ?_ | refine zdX rfl ?_))
  refine zbA 4 (by kernel_rfl) ?_
  refine jco ?_
  refine zaR (fun n => 56 + 1000 * n) (zeJ _ _) rfl rfl F172 rfl rfl (by first | rfl | simp [AV.noSl, AV.noSlL, AObj.noSl, PV.isV, zaH]) (by first | rfl | simp [AV.noSl, AV.noSlL, AObj.noSl, PV.isV, zaH]) rfl rfl rfl (by first | exact trivial | exact ⟨rfl, trivial⟩ | exact ⟨rfl, rfl, trivial⟩ | exact ⟨rfl, rfl, rfl, rfl, rfl, trivial⟩) rfl rfl rfl ?_
  refine jco ?_
  refine zaR (fun n => 58 + 1000 * n) (zeJ _ _) rfl rfl F172 rfl rfl (by first | rfl | simp [AV.noSl, AV.noSlL, AObj.noSl, PV.isV, zaH]) (by first | rfl | simp [AV.noSl, AV.noSlL, AObj.noSl, PV.isV, zaH]) rfl rfl rfl (by first | exact trivial | exact ⟨rfl, trivial⟩ | exact ⟨rfl, rfl, trivial⟩ | exact ⟨rfl, rfl, rfl, rfl, rfl, trivial⟩) rfl rfl rfl ?_
  refine jcx ?_
  refine jco ?_
  refine zaR (fun n => 61 + 1000 * n) (zeJ _ _) rfl rfl F172 rfl rfl (by first | rfl | simp [AV.noSl, AV.noSlL, AObj.noSl, PV.isV, zaH]) (by first | rfl | simp [AV.noSl, AV.noSlL, AObj.noSl, PV.isV, zaH]) rfl rfl rfl (by first | exact trivial | exact ⟨rfl, trivial⟩ | exact ⟨rfl, rfl, trivial⟩ | exact ⟨rfl, rfl, rfl, rfl, rfl, trivial⟩) rfl rfl rfl ?_
  refine jcx ?_
  refine jco ?_
  refine jcp ?_
  refine jcz ?_
  refine jcx ?_
  refine jco ?_
  refine jcp ?_
  refine jcz ?_
  refine jcx ?_
  refine jcx ?_
  refine jcp ?_
  refine jcz ?_
  refine jcp ?_
  refine jcz ?_
  refine jcx ?_
  refine jcx ?_
  refine jdz (za3 (show _ = two v from rfl)) ?_
  refine jcA ?_
  refine zac ⟨by kernel_rfl, ?_⟩
  (repeat (first | refine zad ?_ | refine zao ?_ | refine zap ?_ | refine zaE ?_ | refine zaN ?_ | refine zaz ?_ | refine zbG ?_ | refine zct ?_ | refine zbz ?_ | refine zcz ?_ | refine zcR ?_ | refine zdX rfl ?_))
  refine tx (jco ?_)
  refine jco ?_
  refine jdz (za3 (show _ = ad (shOne ck wk v) (two v) from rfl)) ?_
  refine jco ?_
  refine jcp ?_
  refine jcz ?_
  refine jcp ?_
  refine jcz ?_
  refine jcp ?_
  refine jcz ?_
  refine jco ?_
  refine jdz (za3 (show _ = ad v.d (shOne ck wk v) from rfl)) ?_
  refine jco ?_
  refine jcp ?_
  refine jcz ?_
  refine jcp ?_
  refine jcz ?_
  refine zaa (xs := (iu (rnd ck wk v).l)) (zcV (es := (iu (rnd ck wk v).l)) U206 zr206 rfl sz86 (by kernel_rfl)) (by first | rfl | kernel_rfl) rfl ?_
  refine jcO ?_
  refine zac ?_
  (repeat (first | refine zad ?_ | refine zao ?_ | refine zap ?_ | refine zaE ?_ | refine zaN ?_ | refine zaz ?_ | refine zbG ?_ | refine zct ?_ | refine zbz ?_ | refine zcz ?_ | refine zcR ?_ | refine zdX rfl ?_))
  refine tx (jcu ?_)
  refine jco ?_
  refine zac (zaz (jcG ?_ ?_))
  ·exact jak
  ·rw [hs]
   exact jbZ
 have hge : k = 64 := by simp at h; omega
 clear h
 subst hge
 generalize rn RK W v0 64 = v
 refine zaN (zad (zad (tx (jco ?_))))
 refine zac (zao (zag (fun m st => ∃ k : Nat, m + k = 8 ∧ st = St.of [(2, .ref 2 0), (4, .ref 4 0), (7, .ref 7 0), (98, .p (.v (.int .i64 k)))] [(2, .box 206 (iu v0.l)), (4, .box 206 (iu (List.replicate 8 0))), (7, .box 206 (iu (mx8 v v0 k)))]) 8 ?_ ?_))
 ·refine jcS ?_ ?_
  ·exact jak
  ·exact ⟨⟨zbl rfl, zcy _ _⟩, ⟨zbl rfl, zcy _ _⟩, ⟨zbl rfl, zcy _ _⟩, trivial⟩
 rintro m st ⟨k, hk, rfl⟩
 refine zad (tx (jcY ?_))
 refine zac (zad (zaJ _ rfl (fun h => ?_) (fun h => ?_)))
 ·have hlt : k < 8 := by simp at h; omega
  clear h
  obtain ⟨g1, g2⟩ := mx8_step v v0 k hlt
  have g3 := zio (xs := v0.l) (i := k) hlt
  have g4 := mx8_len v v0 k
  refine jcW ?_
  refine tx (jco ?_)
  refine jcA ?_
  refine zac (zaz (zbA 4 (by kernel_rfl) ?_))
  refine jco ?_
  refine zaa (zaj U206 sz86 (by omega) (by omega) (show 0 + _ = k by omega)) rfl rfl ?_
  refine jcz ?_
  refine jco ?_
  refine zaa (zaj U206 sz86 (by omega) (by omega) (show 0 + _ = k by omega)) rfl rfl ?_
  refine jcz ?_
  refine jdz (za3 (show _ = ad _ _ from rfl)) ?_
  refine zaa (zaj U206 sz86 (by omega) (by omega) (show 0 + _ = k by omega)) rfl rfl ?_
  refine zab (zb3 (Y := .p _) sz86 rfl (by first | exact Nat.eq_of_beq_eq_true rfl | (simp only [AV.cells, List.length_map]; first | assumption | omega)) (by first | exact Nat.le_of_ble_eq_true rfl | omega | (simp only [AV.cells, List.length_map]; omega)) g2) rfl rfl ⟨rfl, trivial⟩ ?_
  refine zac ⟨by kernel_rfl, ?_⟩
  refine zbz (zaz (tx (jcu ?_)))
  refine jco ?_
  refine zac (zaz (jcG ?_ ?_))
  ·exact jak
  ·exact ⟨⟨zbl rfl, zcy _ _⟩, ⟨zbl rfl, zcy _ _⟩, ⟨zbl rfl, zcy _ _⟩, trivial⟩
 have hge : k = 8 := by simp at h; omega
 clear h
 subst hge
 have he : mx8 v v0 8 = (v.plus v0).l := rfl
 rw [he]
 refine zaN (zad (tx (lN U206 rfl sz206 rfl rfl ⟨rfl, trivial⟩ ?_)))
 refine jcO ?_
 refine zac (zaE (fT (fun o => o) (.cellN _ _ _ _ _ _ _ _ _ rfl rfl U206 rfl sz206 (by first | assumption | kernel_rfl) .nil) ?_ ?_))
 ·exact iu_view _ _ _ _
 ·exact trivial
end Go.Proofs.YtbjdjclkbjpebaaGreatDoor
