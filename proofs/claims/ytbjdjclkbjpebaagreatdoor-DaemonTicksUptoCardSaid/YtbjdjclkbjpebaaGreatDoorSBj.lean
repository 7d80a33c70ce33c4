/- The reference's little, WireFault, WireBytes, over data. -/
import Derived.Test.YtbjdjclkbjpebaaGreatDoorSWi2
import Derived.Test.YtbjdjclkbjpebaaGreatDoorSSq
import Derived.Test.YtbjdjclkbjpebaaGreatDoorSEq3
import Derived.Test.YtbjdjclkbjpebaaGreatDoorSMa4
import Derived.Test.YtbjdjclkbjpebaaGreatDoorSShelf
import Derived.Test.YtbjdjclkbjpebaaGreatDoorSUtZ
namespace Go.Proofs.YtbjdjclkbjpebaaGreatDoor
open Tryz
open Go.RowKit Go.Sort
set_option maxHeartbeats 16000000
set_option linter.unusedVariables false
set_option linter.unusedSimpArgs false
set_option maxRecDepth 100000
theorem zcO (xs ys : List Int) : strOfNums xs ++ strOfNums ys = strOfNums (xs ++ ys) := by
 apply ByteArray.ext
 simp [strOfNums, ByteArray.data_append]
theorem be_at (w n k : Nat) (hk : k < w) : ((bs (beN w n)).drop (w - 1 - k)).take (1 * 1) = bs [((n / 256 ^ k % 256 : Nat) : Int)] := by
 have hl : w - 1 - k < (beN w n).length := by rw [zhe]; omega
 have hb : (beN w n)[w - 1 - k] = ((n / 256 ^ k % 256 : Nat) : Int) := by
  simp only [beN, List.getElem_map, List.getElem_range]
  rw [show 8 * (w - 1 - (w - 1 - k)) = 8 * k by omega, Nat.pow_mul]
 rw [show (bs (beN w n)).drop (w - 1 - k) = bs ((beN w n).drop (w - 1 - k)) by simp [bs]]
 rw [List.drop_eq_getElem_cons hl, hb]
 rfl
theorem zdq (w n : Nat) (hw : w ≤ 8) (hn : n < 9223372036854775808) : Fn prog 122 [.p (.v (.int .i64 n)), .p (.v (.int .i64 w))] (.p (.v (.string (strOfNums (leN w n))))) [] := by
 have hB := bigN_s w n hw hn
 refine fnI fun w0 A => ?_
 refine G [8] ?_
 refine cV hB ?_
 refine G [14] ?_
 refine zag (fun m st => ∃ k : Nat, m + k = w ∧ st = St.of [(5, .row 5), (6, .p (.v (.string (strOfNums (leN k n))))), (7, .p (.v (.int .i64 ((w : Int) - 1 - k))))] [(5, .row 5 1 w (bs (beN w n)))]) w ?_ ?_
 ·refine ⟨_, zah (fun _ => 10) _ _ ?_ ?_ rfl, 0, by omega, rfl⟩
  ·exact jbF
  ·exact ⟨⟨rfl, rfl⟩, trivial⟩
 rintro m st ⟨k, hk, rfl⟩
 refine jcs ?_
 refine cX (fun h => ?_) fun h => ?_
 ·have hlt : k < w := by simp at h; omega
  clear h
  have hsub := be_at w n k hlt
  have hl : (bs (beN w n)).length = w := by rw [bs_length, zhe]
  have hc : strOfNums (leN k n) ++ strOfNums [((n / 256 ^ k % 256 : Nat) : Int)] = strOfNums (leN (k + 1) n) := by rw [zcO, zbW]
  have z1 : (strOfNums (leN k n)).size = k := by rw [zaK, zbH]
  have z2 : (strOfNums [((n / 256 ^ k % 256 : Nat) : Int)]).size = 1 := by rw [zaK]; rfl
  refine G [9] ?_
  refine zab (zeC (L := (some (_, _))) (H := (some (_, _))) U62 sz5 ⟨by omega, (show _ = w - 1 - k by omega)⟩ ⟨by omega, (show _ = w - k by omega)⟩ (by omega) (by omega) (show _ = 1 by omega) (show _ = w - 1 - k by omega)) rfl rfl ⟨rfl, trivial⟩ ?_
  refine zab (zfz (xs := [((n / 256 ^ k % 256 : Nat) : Int)]) U62 U5 U9 (src_psl (by omega) hsub) rfl rfl) rfl rfl ⟨rfl, trivial⟩ ?_
  refine zaa (zcU (by omega) hc) rfl rfl ?_
  refine jcq ?_
  refine jcG ?_ ?_
  ·refine jdy ?_
   exact jb2
  ·exact ⟨⟨rfl, rfl⟩, trivial⟩
 have hge : k = w := by simp at h; omega
 clear h
 subst hge
 refine jcq ?_
 exact yE
def zir (t : Int) : ByteArray := if t = 1 then ⟨#[115]⟩ else if t = 2 then ⟨#[115, 114]⟩ else ⟨#[114, 99]⟩
def wN (m : MS) (i : Nat) : Int := if i = 0 then m.s else if i = 1 then m.r else m.c
def wC (i : Nat) : UInt8 := if i = 0 then 115 else if i = 1 then 114 else 99
def wH (x : SH) (i : Nat) : Bool := if i = 0 then x.s else if i = 1 then x.r else x.c
def wL (m : MS) : List PV := [.v (.string ⟨#[115]⟩), .v (.int .i64 m.s), .v (.string ⟨#[114]⟩), .v (.int .i64 m.r), .v (.string ⟨#[99]⟩), .v (.int .i64 m.c)]
theorem wL_at (m : MS) (i : Nat) (h : i < 3) : ((wL m).drop (i * 2)).take 2 = [.v (.string ⟨#[wC i]⟩), .v (.int .i64 (wN m i))] := by
 exact jbX
theorem has_at (t : Int) (i : Nat) (h : i < 3) (ht : t = 1 ∨ t = 2 ∨ t = 4) : decide (0 ≤ ixB (zir t) (wC i)) = wH (ofS t) i := by
 rcases ht with rfl | rfl | rfl
 all_goals
  match i, h with
  | 0, _ => decide
  | 1, _ => decide
  | 2, _ => decide
theorem zc8 (m : MS) (hn : m.n ≤ 140737488355328) : Fn prog 85 [.agg m.cells] (.p (.v (.int .i64 (wE m)))) [] := by
 refine fnI fun w0 A => ?_
 refine G [20, 9, 0] ?_
 (repeat (first | refine zad ?_))
 by_cases ht : m.t = 1 ∨ m.t = 2 ∨ m.t = 4
 rotate_left
 ·have hE : wE m = 2 := by
   have h0 : ofS m.t = ⟨0, 0, false, false, false, false⟩ := by
    unfold ofS
    rw [if_neg (by omega), if_neg (by omega), if_neg (by omega)]
   unfold wE
   rw [h0]
   rfl
  rw [hE]
  refine jcs ?_
  refine cX (fun h => ?_) fun h => ?_
  ·simp at h; omega
  refine jct ?_
  refine cX (fun h => ?_) fun h => ?_
  ·simp at h; omega
  refine jct ?_
  refine cX (fun h => ?_) fun h => ?_
  ·simp at h; omega
  refine jct ?_
  exact yE
 refine awp_join3 (St.of [(1, .ref 1 0), (3, .p (.v (.int .i64 (ofS m.t).lo))), (4, .p (.v (.int .i64 (ofS m.t).hi))), (5, .p (.v (.string (zir m.t))))] [(1, .box 97 m.cells)]) ?_ (fun st' r => za8 r ?_)
 ·refine jcs ?_
  refine cX (fun h => ?_) fun h => ?_
  ·have h1 : m.t = 1 := by simpa using h
   rw [show ofS m.t = ⟨32, 32, true, false, false, true⟩ by unfold ofS; rw [if_pos h1], show zir m.t = ⟨#[115]⟩ by unfold zir; rw [if_pos h1]]
   exact ja4
  have h1 : ¬ m.t = 1 := by simpa using h
  clear h
  refine jct ?_
  refine cX (fun h => ?_) fun h => ?_
  ·have h2 : m.t = 2 := by simpa using h
   rw [show ofS m.t = ⟨24, 24, true, true, false, true⟩ by unfold ofS; rw [if_neg h1, if_pos h2], show zir m.t = ⟨#[115, 114]⟩ by unfold zir; rw [if_neg h1, if_pos h2]]
   exact ja4
  have h2 : ¬ m.t = 2 := by simpa using h
  clear h
  refine jct ?_
  refine cX (fun h => ?_) fun h => ?_
  ·have h3 : m.t = 4 := by simpa using h
   rw [show ofS m.t = ⟨16, 236, false, true, true, true⟩ by unfold ofS; rw [if_neg h1, if_neg h2, if_pos h3], show zir m.t = ⟨#[114, 99]⟩ by unfold zir; rw [if_neg h1, if_neg h2]]
   exact ja4
  ·simp at h; omega
 have hok : (ofS m.t).ok = true := by
  rcases ht with h | h | h <;> rw [h] <;> rfl
 have hhas := fun i hi => has_at m.t i hi ht
 have hE : wE m = if zht (ofS m.t) m = true then 3 else if rngB m = true then 4 else if sizB (ofS m.t) m = true then 1 else 0 := by
  unfold wE; rw [if_neg (by simp [hok])]
 rw [hE]
 clear hE hok ht
 generalize ofS m.t = x at *
 generalize zir m.t = hs at *
 refine G [12] ?_
 refine zab (xs := [.agg [.p (.v (.string ⟨#[115]⟩)), .p (.v (.int .i64 m.s))], .agg [.p (.v (.string ⟨#[114]⟩)), .p (.v (.int .i64 m.r))], .agg [.p (.v (.string ⟨#[99]⟩)), .p (.v (.int .i64 m.c))]]) (zae (es := ((wL m).map AV.p)) (cs := (wL m)) 25 underlying176 sz175 zc175 (Nat.le_of_ble_eq_true rfl) (Nat.le_of_ble_eq_true rfl) rfl (by kernel_rfl) (by kernel_rfl) (by kernel_rfl) (Nat.le_of_ble_eq_true rfl)) (by first | rfl | kernel_rfl) rfl ⟨rfl, trivial⟩ ?_
 refine G [4] ?_
 refine zag (fun q st => ∃ i : Nat, q + i = 3 ∧ (∀ j, j < i → (!(wH x j) && (wN m j != 0)) = false) ∧ st = St.of [(1, .ref 1 0), (3, .p (.v (.int .i64 x.lo))), (4, .p (.v (.int .i64 x.hi))), (5, .p (.v (.string hs))), (25, .row 25), (26, .p (.v (.int .i64 3))), (27, .p (.v (.int .i64 i)))] [(1, .box 97 m.cells), (25, .row 175 2 3 (wL m))]) 3 ?_ ?_
 ·exact jaB
 rintro q st ⟨i, hi, hf, rfl⟩
 refine G [5] ?_
 refine cX (fun h => ?_) fun h => ?_
 ·have hlt : i < 3 := by simp at h; omega
  clear h
  have hat := wL_at m i hlt
  have hct := contains1_s hs (wC i)
  rw [hhas i hlt] at hct
  have hw : wL m = wL m := rfl
  have hlen : (wL m).length = 6 := rfl
  generalize wL m = WL at *
  have hfm : (!(wH x i) && (wN m i != 0)) = true → zht x m = true := by
   intro h1
   unfold zht
   match i, hlt with
   | 0, _ => rw [show (!x.s && (m.s != 0)) = true from h1]; simp
   | 1, _ => rw [show (!x.r && (m.r != 0)) = true from h1]; simp
   | 2, _ => rw [show (!x.c && (m.c != 0)) = true from h1]; simp
  generalize hwn : wN m i = N at *
  generalize hwh : wH x i = H at *
  generalize wC i = CC at *
  refine G [5] ?_
  refine zab (zan underlying176 sz175 (by omega) (by omega) (show _ = i * 2 by omega)) rfl rfl ⟨rfl, trivial⟩ ?_
  refine zab (zb8 underlying175 rfl sz175 (by omega) (hat)) rfl rfl ⟨rfl, trivial⟩ ?_
  refine jdA (zaX 7 zr175 rfl) ?_
  refine jdA (zaf (Y := .agg [.p (.v (.string ⟨#[CC]⟩)), .p (.v (.int .i64 N))]) sz175 rfl rfl (Nat.eq_of_beq_eq_true rfl)) ?_
  refine G [10] ?_
  refine mb2 _ rfl rfl (fun _ => zbc func121 rfl rfl (hct) (by first | rfl | simp [AV.okInL, AV.okIn, zay]) rfl) (fun _ => trivial) ?_
  refine G [1, 2, 1, 9, 0] ?_
  refine cX (fun h => ?_) fun h => ?_
  ·have h1 : (!H && (N != 0)) = true := by rw [Bool.and_comm]; exact h
   rw [if_pos (hfm h1)]
   refine jct ?_
   exact yE
  ·have h1 : (!H && (N != 0)) = false := by rw [Bool.and_comm]; exact h
   clear h
   refine jct ?_
   refine ⟨q - 1, by omega, _, zah id _ _ ?_ ?_ rfl, i + 1, by omega, ?_, rfl⟩
   ·exact jak
   ·exact ⟨⟨rfl, rfl⟩, ⟨rfl, rfl⟩, trivial⟩
   ·intro j hj
    by_cases e : j = i
    ·subst e; rw [hwh, hwn]; exact h1
    ·exact hf j (by omega)
 have hge : i = 3 := by simp at h; omega
 clear h
 subst hge
 have hform : zht x m = false := by
  have a0 : (!x.s && (m.s != 0)) = false := hf 0 (by omega)
  have a1 : (!x.r && (m.r != 0)) = false := hf 1 (by omega)
  have a2 : (!x.c && (m.c != 0)) = false := hf 2 (by omega)
  unfold zht; rw [a0, a1, a2]; rfl
 rw [if_neg (by simp [hform])]
 have hrng : rngB m = (((((decide (m.s < 0) || decide (4294967296 ≤ m.s)) || decide (m.r < 0)) || decide (4294967296 ≤ m.r)) || decide (m.c < 0)) || decide (1099511627776 < m.c)) := by
  unfold rngB
  rw [show decide (4294967295 < m.s) = decide (4294967296 ≤ m.s) from decide_eq_decide.2 (by omega), show decide (4294967295 < m.r) = decide (4294967296 ≤ m.r) from decide_eq_decide.2 (by omega)]
 refine G [11, 2, 4, 2, 4, 2, 4, 2, 4, 2, 1, 9, 0] ?_
 refine cX (fun h => ?_) fun h => ?_
 ·rw [if_pos (hrng.trans h)]
  refine jct ?_
  exact yE
 rw [if_neg (by rw [hrng.trans h]; simp)]
 clear h
 refine G [12] ?_
 refine mb2 _ rfl rfl (fun hb => (zdu U62)) (fun _ => trivial) ?_
 refine G [2, 2, 1, 9, 0] ?_
 refine cX (fun h => ?_) fun h => ?_
 ·rw [if_pos (show sizB x m = true from h)]
  refine jct ?_
  exact yE
 rw [if_neg (show ¬ sizB x m = true by have h' : sizB x m = false := h; simp [h'])]
 refine jcs ?_
 exact yE
theorem refWBytes1_s (m : MS) (ht : m.t = 1) (hE : wE m = 0) (hx : m.xs.length = m.n) (hB : isB m.xs) (hn : m.n ≤ 300) (hs0 : 0 ≤ m.s) (hs1 : m.s ≤ 4294967295) (hr0 : 0 ≤ m.r) (hr1 : m.r ≤ 4294967295) (hc0 : 0 ≤ m.c) (hc1 : m.c ≤ 1099511627776) : Fn prog 86 [.agg m.cells] (.tup [.row 0, .p (.v (.int .i64 0))]) [(0, .row 5 1 (8 + m.n) (bs ([1, 0, 0, 0] ++ leN 4 m.s.toNat ++ m.xs)))] := by
 have hC := zc8 m (by omega)
 rw [hE] at hC
 have hT := zdq 4 1 (by omega) (by omega)
 have hLB : isB ([1, 0, 0, 0] ++ leN 4 m.s.toNat ++ m.xs) := by
  intro y hy
  simp only [List.mem_append] at hy
  rcases hy with (h0 | h1) | h2
  ·simp at h0; omega
  ·exact zhp _ _ _ h1
  ·exact hB _ h2
 obtain ⟨T, S, R, C, n, xs⟩ := m
 simp only [MS.cells] at *
 subst ht
 obtain ⟨S, rfl⟩ := Int.eq_ofNat_of_zero_le hs0
 obtain ⟨R, rfl⟩ := Int.eq_ofNat_of_zero_le hr0
 obtain ⟨C, rfl⟩ := Int.eq_ofNat_of_zero_le hc0
 simp only [Int.toNat_natCast] at *
 clear hE hs0 hr0 hc0
 rw [show leN 4 1 = [1, 0, 0, 0] by decide] at hT
 have z0 : (strOfNums ([1, 0, 0, 0])).size = 4 := by rw [zaK]; rfl
 have l1 := zdq 4 S (by omega) (by omega)
 have c1 : strOfNums ([1, 0, 0, 0]) ++ strOfNums (leN 4 S) = strOfNums ([1, 0, 0, 0] ++ leN 4 S) := zcO _ _
 have y1 : (strOfNums (leN 4 S)).size = 4 := by rw [zaK, zbH]
 have z1 : (strOfNums ([1, 0, 0, 0] ++ leN 4 S)).size = 8 := by rw [zaK]; simp [zbH]
 have cL : strOfNums ([1, 0, 0, 0] ++ leN 4 S) ++ strOfNums xs = strOfNums ([1, 0, 0, 0] ++ leN 4 S ++ xs) := zcO _ _
 have yL : (strOfNums xs).size = n := by rw [zaK, hx]
 have zL : (strOfNums ([1, 0, 0, 0] ++ leN 4 S ++ xs)).size = 8 + n := by rw [zaK, List.length_append, hx, ← zaK, z1]
 have xL := zcv hLB
 refine fnI fun w0 A => ?_
 refine G [10] ?_
 refine cV hC ?_
 refine jcq ?_
 refine cX (fun h => ?_) fun h => ?_
 ·cases h
 clear h
 refine G [5] ?_
 refine cV hT ?_
 refine G [9, 9, 0] ?_
 refine cX (fun h => ?_) fun h => ?_
 rotate_left
 ·simp at h
 clear h
 skip
 refine G [4] ?_
 refine cV l1 ?_
 refine zaa (zcU (by omega) c1) rfl rfl ?_
 refine G [9, 9, 0] ?_
 refine cX (fun h => ?_) fun h => ?_
 ·simp at h
 clear h
 refine jcM ?_
 refine cX (fun h => ?_) fun h => ?_
 ·simp at h
 clear h
 refine G [6] ?_
 exact jaD
theorem refWBytes2_s (m : MS) (ht : m.t = 2) (hE : wE m = 0) (hx : m.xs.length = m.n) (hB : isB m.xs) (hn : m.n ≤ 300) (hs0 : 0 ≤ m.s) (hs1 : m.s ≤ 4294967295) (hr0 : 0 ≤ m.r) (hr1 : m.r ≤ 4294967295) (hc0 : 0 ≤ m.c) (hc1 : m.c ≤ 1099511627776) : Fn prog 86 [.agg m.cells] (.tup [.row 0, .p (.v (.int .i64 0))]) [(0, .row 5 1 (12 + m.n) (bs ([2, 0, 0, 0] ++ leN 4 m.s.toNat ++ leN 4 m.r.toNat ++ m.xs)))] := by
 have hC := zc8 m (by omega)
 rw [hE] at hC
 have hT := zdq 4 2 (by omega) (by omega)
 have hLB : isB ([2, 0, 0, 0] ++ leN 4 m.s.toNat ++ leN 4 m.r.toNat ++ m.xs) := by
  exact jbR
 obtain ⟨T, S, R, C, n, xs⟩ := m
 simp only [MS.cells] at *
 subst ht
 obtain ⟨S, rfl⟩ := Int.eq_ofNat_of_zero_le hs0
 obtain ⟨R, rfl⟩ := Int.eq_ofNat_of_zero_le hr0
 obtain ⟨C, rfl⟩ := Int.eq_ofNat_of_zero_le hc0
 simp only [Int.toNat_natCast] at *
 clear hE hs0 hr0 hc0
 rw [show leN 4 2 = [2, 0, 0, 0] by decide] at hT
 have z0 : (strOfNums ([2, 0, 0, 0])).size = 4 := by rw [zaK]; rfl
 have l1 := zdq 4 S (by omega) (by omega)
 have c1 : strOfNums ([2, 0, 0, 0]) ++ strOfNums (leN 4 S) = strOfNums ([2, 0, 0, 0] ++ leN 4 S) := zcO _ _
 have y1 : (strOfNums (leN 4 S)).size = 4 := by rw [zaK, zbH]
 have z1 : (strOfNums ([2, 0, 0, 0] ++ leN 4 S)).size = 8 := by rw [zaK]; simp [zbH]
 have l2 := zdq 4 R (by omega) (by omega)
 have c2 : strOfNums ([2, 0, 0, 0] ++ leN 4 S) ++ strOfNums (leN 4 R) = strOfNums ([2, 0, 0, 0] ++ leN 4 S ++ leN 4 R) := zcO _ _
 have y2 : (strOfNums (leN 4 R)).size = 4 := by rw [zaK, zbH]
 have z2 : (strOfNums ([2, 0, 0, 0] ++ leN 4 S ++ leN 4 R)).size = 12 := by rw [zaK]; simp [zbH]
 have cL : strOfNums ([2, 0, 0, 0] ++ leN 4 S ++ leN 4 R) ++ strOfNums xs = strOfNums ([2, 0, 0, 0] ++ leN 4 S ++ leN 4 R ++ xs) := zcO _ _
 have yL : (strOfNums xs).size = n := by rw [zaK, hx]
 have zL : (strOfNums ([2, 0, 0, 0] ++ leN 4 S ++ leN 4 R ++ xs)).size = 12 + n := by rw [zaK, List.length_append, hx, ← zaK, z2]
 have xL := zcv hLB
 refine fnI fun w0 A => ?_
 refine G [10] ?_
 refine cV hC ?_
 refine jcq ?_
 refine cX (fun h => ?_) fun h => ?_
 ·cases h
 clear h
 refine G [5] ?_
 refine cV hT ?_
 refine G [9, 9, 0] ?_
 refine cX (fun h => ?_) fun h => ?_
 rotate_left
 ·simp at h
 clear h
 skip
 refine G [4] ?_
 refine cV l1 ?_
 refine zaa (zcU (by omega) c1) rfl rfl ?_
 refine G [9, 9, 0] ?_
 refine cX (fun h => ?_) fun h => ?_
 rotate_left
 ·simp at h
 clear h
 skip
 refine G [4] ?_
 refine cV l2 ?_
 refine zaa (zcU (by omega) c2) rfl rfl ?_
 refine G [9, 9, 0] ?_
 refine cX (fun h => ?_) fun h => ?_
 ·simp at h
 clear h
 refine G [6] ?_
 exact jaD
theorem refWBytes4_s (m : MS) (ht : m.t = 4) (hE : wE m = 0) (hx : m.xs.length = m.n) (hB : isB m.xs) (hn : m.n ≤ 300) (hs0 : 0 ≤ m.s) (hs1 : m.s ≤ 4294967295) (hr0 : 0 ≤ m.r) (hr1 : m.r ≤ 4294967295) (hc0 : 0 ≤ m.c) (hc1 : m.c ≤ 1099511627776) : Fn prog 86 [.agg m.cells] (.tup [.row 0, .p (.v (.int .i64 0))]) [(0, .row 5 1 (16 + m.n) (bs ([4, 0, 0, 0] ++ leN 4 m.r.toNat ++ leN 8 m.c.toNat ++ m.xs)))] := by
 have hC := zc8 m (by omega)
 rw [hE] at hC
 have hT := zdq 4 4 (by omega) (by omega)
 have hLB : isB ([4, 0, 0, 0] ++ leN 4 m.r.toNat ++ leN 8 m.c.toNat ++ m.xs) := by
  exact jbR
 obtain ⟨T, S, R, C, n, xs⟩ := m
 simp only [MS.cells] at *
 subst ht
 obtain ⟨S, rfl⟩ := Int.eq_ofNat_of_zero_le hs0
 obtain ⟨R, rfl⟩ := Int.eq_ofNat_of_zero_le hr0
 obtain ⟨C, rfl⟩ := Int.eq_ofNat_of_zero_le hc0
 simp only [Int.toNat_natCast] at *
 clear hE hs0 hr0 hc0
 rw [show leN 4 4 = [4, 0, 0, 0] by decide] at hT
 have z0 : (strOfNums ([4, 0, 0, 0])).size = 4 := by rw [zaK]; rfl
 have l1 := zdq 4 R (by omega) (by omega)
 have c1 : strOfNums ([4, 0, 0, 0]) ++ strOfNums (leN 4 R) = strOfNums ([4, 0, 0, 0] ++ leN 4 R) := zcO _ _
 have y1 : (strOfNums (leN 4 R)).size = 4 := by rw [zaK, zbH]
 have z1 : (strOfNums ([4, 0, 0, 0] ++ leN 4 R)).size = 8 := by rw [zaK]; simp [zbH]
 have l2 := zdq 8 C (by omega) (by omega)
 have c2 : strOfNums ([4, 0, 0, 0] ++ leN 4 R) ++ strOfNums (leN 8 C) = strOfNums ([4, 0, 0, 0] ++ leN 4 R ++ leN 8 C) := zcO _ _
 have y2 : (strOfNums (leN 8 C)).size = 8 := by rw [zaK, zbH]
 have z2 : (strOfNums ([4, 0, 0, 0] ++ leN 4 R ++ leN 8 C)).size = 16 := by rw [zaK]; simp [zbH]
 have cL : strOfNums ([4, 0, 0, 0] ++ leN 4 R ++ leN 8 C) ++ strOfNums xs = strOfNums ([4, 0, 0, 0] ++ leN 4 R ++ leN 8 C ++ xs) := zcO _ _
 have yL : (strOfNums xs).size = n := by rw [zaK, hx]
 have zL : (strOfNums ([4, 0, 0, 0] ++ leN 4 R ++ leN 8 C ++ xs)).size = 16 + n := by rw [zaK, List.length_append, hx, ← zaK, z2]
 have xL := zcv hLB
 refine fnI fun w0 A => ?_
 refine G [10] ?_
 refine cV hC ?_
 refine jcq ?_
 refine cX (fun h => ?_) fun h => ?_
 ·cases h
 clear h
 refine G [5] ?_
 refine cV hT ?_
 refine G [9, 9, 0] ?_
 refine cX (fun h => ?_) fun h => ?_
 ·simp at h
 clear h
 refine jcM ?_
 refine cX (fun h => ?_) fun h => ?_
 rotate_left
 ·simp at h
 clear h
 skip
 refine G [4] ?_
 refine cV l1 ?_
 refine zaa (zcU (by omega) c1) rfl rfl ?_
 refine G [9, 9, 0] ?_
 refine cX (fun h => ?_) fun h => ?_
 rotate_left
 ·simp at h
 clear h
 skip
 refine G [4] ?_
 refine cV l2 ?_
 refine zaa (zcU (by omega) c2) rfl rfl ?_
 refine G [7] ?_
 exact jaD
theorem wE_good {m : MS} (h : wE m = 0) : (m.t = 1 ∨ m.t = 2 ∨ m.t = 4) ∧ m.n ≤ 300 ∧ 0 ≤ m.s ∧ m.s ≤ 4294967295 ∧ 0 ≤ m.r ∧ m.r ≤ 4294967295 ∧ 0 ≤ m.c ∧ m.c ≤ 1099511627776 := by
 unfold wE at h
 by_cases h1 : (ofS m.t).ok = false
 ·rw [if_pos h1] at h; omega
 rw [if_neg h1] at h
 by_cases h2 : zht (ofS m.t) m = true
 ·rw [if_pos h2] at h; omega
 rw [if_neg h2] at h
 by_cases h3 : rngB m = true
 ·rw [if_pos h3] at h; omega
 rw [if_neg h3] at h
 by_cases h4 : sizB (ofS m.t) m = true
 ·rw [if_pos h4] at h; omega
 have ht : m.t = 1 ∨ m.t = 2 ∨ m.t = 4 := by
  by_cases a1 : m.t = 1
  ·exact .inl a1
  by_cases a2 : m.t = 2
  ·exact .inr (.inl a2)
  by_cases a3 : m.t = 4
  ·exact .inr (.inr a3)
  ·exfalso; apply h1; unfold ofS; rw [if_neg a1, if_neg a2, if_neg a3]
 have hhi : (ofS m.t).hi ≤ 236 := by
  rcases ht with h | h | h <;> rw [h] <;> decide
 unfold rngB at h3
 unfold sizB at h4
 simp at h3 h4
 exact ⟨ht, by omega, by omega, by omega, by omega, by omega, by omega, by omega⟩
theorem MS.of_ty {n : Nat} {ps : List PV} (h : Ty prog (n + 3) 97 ps) : ∃ m : MS, m.xs.length = m.n ∧ isB m.xs ∧ m.n ≤ 140737488351232 ∧ ps = m.pv := by
 obtain ⟨_, rfl, x0, _, rfl, t0, x1, _, rfl, t1, x2, _, rfl, t2, x3, _, rfl, t3, x4, _, rfl, t4, rfl⟩ := zbh (ts := [3, 3, 3, 3, 62]) (by kernel_rfl) h
 obtain ⟨a0, rfl, w0⟩ := zbm U3 t0
 obtain ⟨a1, rfl, w1⟩ := zbm U3 t1
 obtain ⟨a2, rfl, w2⟩ := zbm U3 t2
 obtain ⟨a3, rfl, w3⟩ := zbm U3 t3
 obtain ⟨xs, rfl, hl, hB⟩ := ty_bytesS U62 U5 (by kernel_rfl) (by kernel_rfl) t4
 exact ⟨⟨a0, a1, a2, a3, xs.length, xs⟩, rfl, hB, hl, rfl⟩
theorem wenc_bad (m : MS) (hn : m.n ≤ 140737488351232) (hE : wE m ≠ 0) : Fn prog 73 [.agg m.cells] (.tup [.p (.v (.slice none 0 0)), .p (.v (.int .i64 (wE m)))]) [] := by
 have hC := zfa m (by omega)
 exact jbA
theorem refWBytes_bad (m : MS) (hn : m.n ≤ 140737488351232) (hE : wE m ≠ 0) : Fn prog 86 [.agg m.cells] (.tup [.p (.v (.slice none 0 0)), .p (.v (.int .i64 (wE m)))]) [] := by
 have hC := zc8 m (by omega)
 exact jbA
end Go.Proofs.YtbjdjclkbjpebaaGreatDoor
namespace Go.Proofs.YtbjdjclkbjpebaaGreatDoor
open Go.RowKit Go.Sort
set_option linter.unusedVariables false
set_option linter.unusedSimpArgs false
set_option maxRecDepth 100000
theorem bytes_inj {xs ys : List Int} (h : isB xs) (k : isB ys) (e : Lib.bytesOf xs = Lib.bytesOf ys) : xs = ys := by
 refine zie h k ?_
 show (⟨(Lib.bytesOf xs).toArray⟩ : ByteArray) = ⟨(Lib.bytesOf ys).toArray⟩
 rw [e]
theorem bs_vals {S : Nat → Prop} {w : World} : ∀ {xs : List Int} {vs : List Value}, PRepL S w (bs xs) vs → vs = xs.map (.int .u8)
 | [], vs, h => by simpa [bs, PRepL] using h
 | x :: xs, vs, h => by
  simp only [bs, List.map_cons, PRepL, PRep] at h
  obtain ⟨u, us, rfl, ⟨rfl, _⟩, h3⟩ := h
  rw [bs_vals (xs := xs) h3]; rfl
theorem bsR_rep {S : Nat → Prop} {w : World} : ∀ xs : List Int, PRepL S w (bs xs) (xs.map (.int .u8))
 | [] => by simp [bs, PRepL]
 | x :: xs => by
  simp only [bs, List.map_cons, PRepL, PRep]
  exact ⟨_, _, rfl, ⟨rfl, rfl⟩, bsR_rep xs⟩
theorem holds_of {S : Nat → Prop} {w : World} {xs : List Int} {v : Value} (hB : isB xs) (h : PRep S w (.sl xs.length 1 (bs xs)) v) : Lib.HoldsBytes w v (Lib.bytesOf xs) := by
 simp only [PRep] at h
 obtain ⟨a, cap, vs, rfl, h2, h3, h4, h5⟩ := h
 have hl : (Lib.bytesOf xs).length = xs.length := Lib.bytesOf_length xs
 refine ⟨a, cap, by rw [hl], fun hn => ?_, fun ad had i x hx => ?_⟩
 ·rcases h5 with h5 | ⟨b, off, h6, _⟩
  ·exact List.eq_nil_of_length_eq_zero (by rw [hl]; exact h5)
  ·rw [hn] at h6; cases h6
 ·have hi : i < xs.length := by rw [← hl]; exact (List.getElem?_eq_some_iff.1 hx).1
  rcases h5 with h5 | ⟨b, off, h6, _, h8⟩
  ·omega
  ·rw [had] at h6
   obtain rfl := Option.some.inj h6
   have hv := bs_vals h4
   have e1 : xs[i]? = some xs[i] := List.getElem?_eq_getElem hi
   have e2 : vs[i]? = some (.int .u8 xs[i]) := by rw [hv, List.getElem?_map, e1]; rfl
   have e3 : x.toNat = xs[i].toNat := by
    unfold Lib.bytesOf at hx
    rw [List.getElem?_map, e1] at hx
    simp only [Option.map_some, Option.some.injEq] at hx
    rw [← hx]
    have := hB xs[i] (List.getElem_mem hi)
    rw [UInt8.toNat_ofNat']; omega
   have e4 : ((x.toNat : Nat) : Int) = xs[i] := by
    have := hB xs[i] (List.getElem_mem hi)
    omega
   rw [e4]
   rw [Addr.add_mid]
   exact h8 i _ e2
def bParts (ls : List (List Int)) : List PV := ls.map fun xs => .sl xs.length 1 (bs xs)
theorem zgP {S : Nat → Prop} {w : World} : ∀ {ls : List (List Int)} {vs : List Value}, (∀ xs ∈ ls, isB xs) → PRepL S w (bParts ls) vs → vs.length = (ls.map Lib.bytesOf).length ∧ ∀ (i : Nat) v l, vs[i]? = some v → (ls.map Lib.bytesOf)[i]? = some l → Lib.HoldsBytes w v l
 | [], vs, _, h => by
  simp only [bParts, List.map_nil, PRepL] at h
  subst h
  exact ⟨rfl, fun i v l h => by simp at h⟩
 | xs :: ls, vs, hB, h => by
  simp only [bParts, List.map_cons, PRepL] at h
  obtain ⟨u, us, rfl, h2, h3⟩ := h
  obtain ⟨i1, i2⟩ := zgP (ls := ls) (fun y hy => hB y (by simp [hy])) h3
  refine ⟨by simp only [List.length_cons, List.map_cons]; rw [i1], fun i v l hv hl => ?_⟩
  cases i with
  | zero =>
   simp at hv hl
   subst hv; subst hl
   exact holds_of (hB xs (by simp)) h2
  | succ i => exact i2 i v l (by simpa using hv) (by simpa using hl)
theorem join_flat : ∀ ls : List (List Int), Lib.join (ls.map Lib.bytesOf) [] = Lib.bytesOf ls.flatten
 | [] => rfl
 | x :: ls => by
  rw [List.map_cons, Lib.join_cons, List.flatten_cons]
  have e : Lib.joinTail [] (ls.map Lib.bytesOf) = (ls.map Lib.bytesOf).flatten := by unfold Lib.joinTail; rw [show ((fun x => ([] : List UInt8) ++ x)) = id from rfl, List.map_id]
  have e2 : ∀ l : List (List Int), (l.map Lib.bytesOf).flatten = Lib.bytesOf l.flatten := fun l => by
   induction l with
   | nil => rfl
   | cons y l ih => rw [List.map_cons, List.flatten_cons, List.flatten_cons, ih]; simp [Lib.bytesOf]
  rw [e, e2]
  simp [Lib.bytesOf]
theorem lens_flat : ∀ ls : List (List Int), Lib.lens (ls.map Lib.bytesOf) = ls.flatten.length
 | [] => rfl
 | x :: ls => by
  have := lens_flat ls
  unfold Lib.lens at this ⊢
  rw [List.map_cons, List.map_cons, List.sum_cons, this, List.flatten_cons, List.length_append, Lib.bytesOf_length]
theorem flat_B {ls : List (List Int)} (h : ∀ xs ∈ ls, isB xs) : isB ls.flatten := fun x hx => by
 obtain ⟨xs, h1, h2⟩ := List.mem_flatten.1 hx
 exact h xs h1 x h2
theorem bjoin_s (ls : List (List Int)) (hB : ∀ xs ∈ ls, isB xs) (h2 : 2 ≤ ls.length) (hn : ls.length ≤ 1000) (hz : ls.flatten.length ≤ 140737488355328) :
  Fn Tryz.prog 71 [.p (.sl ls.length 1 (bParts ls)), .p (.v (.slice none 0 0))] (.p (.sl ls.flatten.length 1 (bs ls.flatten))) [] := by
 intro w A us hA hG hus
 simp only [RepL] at hus
 obtain ⟨u1, us1, rfl, h3, u2, us2, rfl, h4, rfl⟩ := hus
 have h4 := zba h4
 subst h4
 simp only [Rep, PRep] at h3
 obtain ⟨a, cap, vs, rfl, g1, g2, g3, g4⟩ := h3
 rcases g4 with g4 | ⟨b, off, rfl, g5, g6⟩
 ·omega
 obtain ⟨i1, i2⟩ := zgP hB g3
 have hP : Lib.PartsAt w ⟨b, off, none⟩ vs (ls.map Lib.bytesOf) := ⟨i1, fun i v hv => by
  rw [Addr.add_mid]
  exact g6 i v hv, i2⟩
 have hS : Lib.HoldsBytes w (.slice none 0 0) [] := ⟨none, 0, rfl, fun _ => rfl, fun a h => by cases h⟩
 have hC := Tryz.bytes_Join_many b off ls.length cap vs (ls.map Lib.bytesOf) (.slice none 0 0) [] w (by simp) h2 hP g1 hS (by omega) (by rw [lens_flat, List.length_nil, Nat.zero_mul, Nat.add_zero]; exact hz)
 refine hC.mono ?_
 rintro e w' ⟨v', rfl, hf, hbel⟩
 rw [join_flat] at hf
 obtain ⟨g, c, zs, rfl, f1, f2, f3, f4, f5, f6, f7, f8⟩ := hf
 rw [Lib.bytesOf_length] at f2 f6 ⊢
 have hFB := flat_B hB
 have hzs : zs.take ls.flatten.length = ls.flatten := bytes_inj (fun x hx => f5 x (List.mem_of_mem_take hx)) hFB f6
 refine ⟨_, rfl, fun x => A x ∨ (x = g ∧ 0 < ls.flatten.length), fun _ => none, ?_, ?_⟩
 ·simp only [Rep, PRep]
  refine ⟨_, c, ls.flatten.map (.int .u8), rfl, f2, by rw [Nat.mul_one]; unfold bs; exact List.length_map .., bsR_rep _, ?_⟩
  by_cases h0 : ls.flatten.length = 0
  ·exact .inl h0
  ·refine .inr ⟨g, 0, rfl, .inr ⟨rfl, by omega⟩, fun j v hj => ?_⟩
   rw [List.getElem?_map] at hj
   cases hq : ls.flatten[j]? with
   | none => rw [hq] at hj; cases hj
   | some x =>
    rw [hq] at hj
    simp only [Option.map_some, Option.some.injEq] at hj
    subst hj
    have hjl := (List.getElem?_eq_some_iff.1 hq).1
    rw [Nat.zero_add, f7 j (by omega)]
    have : zs.getD j 0 = x := by
     rw [List.getD_eq_getElem?_getD]
     have h9 : (zs.take ls.flatten.length)[j]? = some x := by rw [hzs]; exact hq
     rw [List.getElem?_take, if_pos hjl] at h9
     rw [h9]; rfl
    rw [this]
 ·refine ⟨hbel, ?_, ?_, fun o _ => rfl, fun o ob ho => (by cases ho), fun o o' ob ob' v v' b ho => (by cases ho), hG⟩
  ·rintro x (hx | ⟨rfl, _⟩)
   ·exact .inl hx
   ·exact .inr f1
  ·rintro x (hx | ⟨rfl, hpos⟩)
   ·exact Nat.lt_of_lt_of_le (hA x hx) hbel.size
   ·have hc := f7 0 (by omega)
    rw [World.cell?] at hc
    cases hq : w'.heap[x]? with
    | none => simp [hq] at hc
    | some ob => exact (Array.getElem?_eq_some_iff.1 hq).1
end Go.Proofs.YtbjdjclkbjpebaaGreatDoor
