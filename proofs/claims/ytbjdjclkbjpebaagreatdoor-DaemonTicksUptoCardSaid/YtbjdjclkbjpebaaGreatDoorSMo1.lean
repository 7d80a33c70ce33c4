/- shake.Hello, ref.HelloOf, over data. -/
import Derived.Test.YtbjdjclkbjpebaaGreatDoorSWi6
import Derived.Test.YtbjdjclkbjpebaaGreatDoorSBj
import Derived.Test.YtbjdjclkbjpebaaGreatDoorSWi1
import Derived.Test.YtbjdjclkbjpebaaGreatDoorSDm1
import Derived.Test.YtbjdjclkbjpebaaGreatDoorSFo
namespace Go.Proofs.YtbjdjclkbjpebaaGreatDoor
open Tryz
open Go.RowKit Go.Sort
set_option maxHeartbeats 16000000
set_option linter.unusedVariables false
set_option linter.unusedSimpArgs false
set_option maxRecDepth 100000
def zf9 : ByteArray := ⟨#[104, 101, 108, 108, 111]⟩
def zhs (a nc : ByteArray) (mine : Int) : List Int := beI mine ++ zaq nc 8 ++ zdj a
def helT (a b sh nc : ByteArray) (mine : Int) : List Int := (macD (secS a b sh) (sb zf9 ++ zhs a nc mine)).take 16
def helB (a b sh nc : ByteArray) (mine : Int) : List Int := zaq nc 8 ++ zdj a ++ helT a b sh nc mine
def helM (a b sh nc : ByteArray) (mine : Int) : MS := ⟨1, mine, 0, 0, 32, helB a b sh nc mine⟩
def helE (a b sh nc : ByteArray) (mine : Int) : Int :=
 if secE a b sh ≠ 0 then secE a b sh else if noE nc ≠ 0 then noE nc else wE (helM a b sh nc mine)
def mRes (e : Int) (m : MS) : AV := if e = 0 then .tup [.agg m.cells, .p (.v (.int .i64 0))] else .tup [.agg MS0, .p (.v (.int .i64 e))]
theorem zew {e e' : Int} (h : e = e') (he : e' ≠ 0) (m : MS) : mRes e m = .tup [.agg MS0, .p (.v (.int .i64 e'))] := by subst h; exact if_neg he
theorem mRes_good {e : Int} (h : e = 0) (m : MS) : mRes e m = .tup [.agg m.cells, .p (.v (.int .i64 0))] := by subst h; rfl
theorem zgk (a b sh nc : ByteArray) (mine : Int) : (helT a b sh nc mine).length = 16 := by rw [helT, List.length_take, zev]; rfl
theorem helB_len (a b sh nc : ByteArray) (mine : Int) : (helB a b sh nc mine).length = 32 := by
 rw [helB, List.length_append, List.length_append, zaP, zdH, zgk]
theorem helT_B (a b sh nc : ByteArray) (mine : Int) : isB (helT a b sh nc mine) := fun x hx => macD_B _ _ x (List.mem_of_mem_take hx)
theorem secE_key {a b sh : ByteArray} (h : secE a b sh = 0) : keyE a = 0 := by
 unfold secE at h
 split at h
 ·exact absurd h (by assumption)
 ·simp_all
theorem noE_good {nc : ByteArray} (h : noE nc = 0) : nc.size = 16 ∧ hexE nc = 0 := by
 unfold noE at h
 split at h
 ·exact ⟨by assumption, h⟩
 ·omega
theorem noE_B {nc : ByteArray} (h : noE nc = 0) : isB (zaq nc 8) := by
 obtain ⟨h1, h2⟩ := noE_good h
 exact zdI (zdd h2) (by omega)
theorem hello_s (a b sh nc : ByteArray) (mine : Int) (hsh : sh.size ≤ 140737488351232) :
  Fn prog 35 [.p (.v (.string a)), .p (.v (.string b)), .p (.v (.string sh)), .p (.v (.int .i64 mine)), .p (.v (.string nc))] (mRes (helE a b sh nc mine) (helM a b sh nc mine)) [] := by
 have hS := secret_s a b sh hsh
 have hN := shNonce_s nc
 have hE : helE a b sh nc mine = if secE a b sh ≠ 0 then secE a b sh else if noE nc ≠ 0 then noE nc else wE (helM a b sh nc mine) := rfl
 by_cases h1 : secE a b sh ≠ 0
 ·exact ja8
 rw [if_neg h1] at hE
 replace h1 : secE a b sh = 0 := Decidable.not_not.1 h1
 rw [zfj h1] at hS
 by_cases h2 : noE nc ≠ 0
 ·rw [if_pos h2] at hE
  rw [zew hE h2]
  rw [zge rfl h2] at hN
  generalize noE nc = e at *
  refine fnI fun w0 A => ?_
  refine G [10] ?_
  refine cV hS ?_
  refine G [10, 1, 1, 9, 0] ?_
  refine cX (fun h => ?_) fun h => ?_
  ·cases h
  refine G [4] ?_
  refine cK hN ?_
  exact jb7
 rw [if_neg h2] at hE
 replace h2 : noE nc = 0 := Decidable.not_not.1 h2
 rw [zfn h2] at hN
 have hMk := mark_s a
 obtain ⟨e1, e2⟩ := zaW (secE_key h1) 8 (zdj a)
 rw [e1, e2] at hMk
 clear e1 e2
 have hNu := shNum_s mine
 have hT := stag_s (secS a b sh) zf9 (beI mine) (zaq nc 8) (zdj a) (keyE_secS a b sh) (beI_B mine) (noE_B h2) (zfK a) (by rw [zaP, zdH]; show (5 : Nat) + (4 + 8 + 8) ≤ 900; decide)
 rw [zaP, zdH] at hT
 change Fn prog 69 [.p (.v (.string (secS a b sh))), .p (.v (.string ⟨#[104, 101, 108, 108, 111]⟩)), .p (.sl 3 1 [.sl 4 1 (bs (beI mine)), .sl 8 1 (bs (zaq nc 8)), .sl 8 1 (bs (zdj a))])] (.tup [.p (.sl 16 1 (bs (helT a b sh nc mine))), .p (.v (.int .i64 0))]) [] at hT
 have hJ := bjoin_s [zaq nc 8, zdj a, helT a b sh nc mine] (by intro x hx; simp only [List.mem_cons, List.not_mem_nil, or_false] at hx; rcases hx with rfl | rfl | rfl; exact noE_B h2; exact zfK a; exact helT_B a b sh nc mine) (by simp) (by simp) (by rw [join3]; simp only [List.length_append]; rw [zaP, zdH, zgk]; decide)
 rw [join3] at hJ
 simp only [bParts, List.map_cons, List.map_nil] at hJ
 rw [zaP, zdH, zgk] at hJ
 change Fn prog 71 [.p (.sl 3 1 [.sl 8 1 (bs (zaq nc 8)), .sl 8 1 (bs (zdj a)), .sl 16 1 (bs (helT a b sh nc mine))]), .p (.v (.slice none 0 0))] (.p (.sl (helB a b sh nc mine).length 1 (bs (helB a b sh nc mine)))) [] at hJ
 rw [helB_len] at hJ
 have hW := zfa (helM a b sh nc mine) (by show (32 : Nat) ≤ _; decide)
 unfold mRes
 rw [hE]
 have hc : (helM a b sh nc mine).cells = [.p (.v (.int .i64 1)), .p (.v (.int .i64 mine)), .p (.v (.int .i64 0)), .p (.v (.int .i64 0)), .p (.sl 32 1 (bs (helB a b sh nc mine)))] := rfl
 rw [hc] at hW ⊢
 unfold MS0
 change Fn prog 67 _ (.tup [.p (.sl 8 1 (bs (zaq nc 8))), .p (.v (.int .i64 0))]) [] at hN
 clear hE hc h1 h2
 generalize wE (helM a b sh nc mine) = e at *
 generalize helB a b sh nc mine = BB at *
 generalize helT a b sh nc mine = BT at *
 generalize zdj a = BM at *
 generalize zaq nc 8 = BN at *
 generalize beI mine = BI at *
 generalize secS a b sh = K at *
 refine fnI fun w0 A => ?_
 refine G [10] ?_
 refine cV hS ?_
 refine G [10, 1, 1, 9, 0] ?_
 refine cX (fun h => ?_) fun h => ?_
 ·cases h
 refine G [4] ?_
 refine cK hN ?_
 refine G [10, 1, 1, 9, 0] ?_
 refine cX (fun h => ?_) fun h => ?_
 ·cases h
 refine G [4] ?_
 refine cV hMk ?_
 refine G [6] ?_
 refine za2 (zc7 (cs := bs BM) 43 rfl) ?_
 refine G [4] ?_
 refine cK hNu ?_
 refine G [2] ?_
 refine zab (xs := [.p (.sl 4 1 (bs BI)), .p (.sl 8 1 (bs BN)), .p (.sl 8 1 (bs BM))]) (zae (es := [.p (.sl 4 1 (bs BI)), .p (.sl 8 1 (bs BN)), .p (.sl 8 1 (bs BM))]) (cs := [.sl 4 1 (bs BI), .sl 8 1 (bs BN), .sl 8 1 (bs BM)]) 52 underlying134 sz62 zc62 (Nat.le_of_ble_eq_true rfl) (Nat.le_of_ble_eq_true rfl) rfl (by kernel_rfl) (by kernel_rfl) (by kernel_rfl) (Nat.le_of_ble_eq_true rfl)) (by first | rfl | kernel_rfl) rfl ⟨rfl, trivial⟩ ?_
 refine r_callW (fun n => 53 + 1000 * n) (hT) rfl rfl func69 rfl rfl rfl rfl rfl rfl rfl (by first | exact trivial | exact ⟨rfl, trivial⟩ | exact ⟨rfl, rfl, trivial⟩ | exact ⟨rfl, rfl, rfl, rfl, rfl, trivial⟩) rfl rfl rfl ?_
 refine G [12] ?_
 refine zab (xs := [.p (.sl 8 1 (bs BN)), .p (.sl 8 1 (bs BM)), .p (.sl 16 1 (bs BT))]) (zae (es := [.p (.sl 8 1 (bs BN)), .p (.sl 8 1 (bs BM)), .p (.sl 16 1 (bs BT))]) (cs := [.sl 8 1 (bs BN), .sl 8 1 (bs BM), .sl 16 1 (bs BT)]) 60 underlying134 sz62 zc62 (Nat.le_of_ble_eq_true rfl) (Nat.le_of_ble_eq_true rfl) rfl (by kernel_rfl) (by kernel_rfl) (by kernel_rfl) (Nat.le_of_ble_eq_true rfl)) (by first | rfl | kernel_rfl) rfl ⟨rfl, trivial⟩ ?_
 refine r_callW (fun n => 61 + 1000 * n) (hJ) rfl rfl func71 rfl rfl rfl rfl rfl rfl rfl (by first | exact trivial | exact ⟨rfl, trivial⟩ | exact ⟨rfl, rfl, trivial⟩ | exact ⟨rfl, rfl, rfl, rfl, rfl, trivial⟩) rfl rfl rfl ?_
 refine G [8] ?_
 refine cV hW ?_
 refine jcq ?_
 refine cX (fun h => ?_) fun h => ?_
 ·have he : e ≠ 0 := by simpa using h
  rw [if_neg he]
  refine jcM ?_
  exact yE
 ·have he : e = 0 := by simpa using h
  rw [if_pos he]
  refine jcM ?_
  exact yE
theorem refHello_s (a b sh nc : ByteArray) (mine : Int) (m0 : -9223372036854775808 ≤ mine) (m1 : mine ≤ 9223372036854775807) (hsh : sh.size ≤ 140737488351232) :
  Fn prog 45 [.p (.v (.string a)), .p (.v (.string b)), .p (.v (.string sh)), .p (.v (.int .i64 mine)), .p (.v (.string nc))] (mRes (helE a b sh nc mine) (helM a b sh nc mine)) [] := by
 have hS := refSecret_s a b sh hsh
 have hH := zcw nc
 have hE : helE a b sh nc mine = if secE a b sh ≠ 0 then secE a b sh else if noE nc ≠ 0 then noE nc else wE (helM a b sh nc mine) := rfl
 by_cases h1 : secE a b sh ≠ 0
 ·exact ja8
 rw [if_neg h1] at hE
 replace h1 : secE a b sh = 0 := Decidable.not_not.1 h1
 rw [zfj h1] at hS
 by_cases hz : nc.size = 16
 rotate_left
 ·have hN1 : noE nc = 1 := by unfold noE; rw [if_neg hz]
  rw [if_pos (by rw [hN1]; decide), hN1] at hE
  rw [zew hE (by decide)]
  refine fnI fun w0 A => ?_
  refine G [10] ?_
  refine cV hS ?_
  refine G [10, 1, 1, 9, 0] ?_
  refine cX (fun h => ?_) fun h => ?_
  ·cases h
  refine jcM ?_
  refine cX (fun h => ?_) fun h => ?_
  ·refine jcq ?_
   exact yE
  ·exact absurd (by simp at h; omega) hz
 have hN1 : noE nc = hexE nc := by unfold noE; rw [if_pos hz]
 by_cases h2 : hexE nc ≠ 0
 ·rw [hN1, if_pos h2] at hE
  rw [zew hE h2]
  obtain ⟨e1, e2⟩ := zbw rfl h2
  rw [e1, e2] at hH
  generalize hexE nc = e at *
  refine fnI fun w0 A => ?_
  refine G [10] ?_
  refine cV hS ?_
  refine G [10, 1, 1, 9, 0] ?_
  refine cX (fun h => ?_) fun h => ?_
  ·cases h
  refine jcM ?_
  refine cX (fun h => ?_) fun h => ?_
  ·simp [hz] at h
  refine G [4] ?_
  refine cV hH ?_
  exact jb7
 rw [hN1, if_neg h2] at hE
 replace h2 : hexE nc = 0 := Decidable.not_not.1 h2
 have hNB := noE_B (hN1.trans h2)
 obtain ⟨e1, e2⟩ := za1 h2
 rw [e1, e2, hz] at hH
 clear e1 e2
 change Fn prog 81 _ _ [(0, .row 5 1 8 (bs (zaq nc 8)))] at hH
 have hMk := refMark_s a
 rw [zfn (secE_key h1)] at hMk
 have hNu := bigZ_s mine m0 m1
 obtain ⟨u1, hu1⟩ : ∃ u, zf9 ++ strOfNums (beI mine) = u := ⟨_, rfl⟩
 obtain ⟨u2, hu2⟩ : ∃ u, u1 ++ strOfNums (zaq nc 8) = u := ⟨_, rfl⟩
 obtain ⟨u3, hu3⟩ : ∃ u, u2 ++ strOfNums (zdj a) = u := ⟨_, rfl⟩
 have zI : (strOfNums (beI mine)).size = 4 := by rw [zaK]; rfl
 have zN : (strOfNums (zaq nc 8)).size = 8 := by rw [zaK, zaP]
 have zM : (strOfNums (zdj a)).size = 8 := by rw [zaK, zdH]
 have zT : (strOfNums (helT a b sh nc mine)).size = 16 := by rw [zaK, zgk]
 have zH : zf9.size = 5 := rfl
 have z1 : u1.size = 9 := by rw [← hu1, zbY, zI, zH]
 have z2 : u2.size = 17 := by rw [← hu2, zbY, z1, zN]
 have z3 : u3.size = 25 := by rw [← hu3, zbY, z2, zM]
 have zs3 : sb u3 = sb zf9 ++ zhs a nc mine := by
  rw [← hu3, zfi, zcv (zfK a), ← hu2, zfi, zcv hNB, ← hu1, zfi, zcv (beI_B mine)]
  simp [zhs]
 have hB : isB (sb zf9 ++ zhs a nc mine) := zbg (sb_isB _) (zbg (zbg (beI_B mine) hNB) (zfK a))
 have hlen : (sb zf9 ++ zhs a nc mine).length = 25 := by rw [← zs3, zc6, z3]
 have hT := refTag_s (secS a b sh) 25 (sb zf9 ++ zhs a nc mine) hlen hB
 obtain ⟨e1, e2⟩ := zaW (show macE (secS a b sh) 25 = 0 by unfold macE; rw [if_pos (keyE_secS a b sh), if_neg (by decide)]) 32 (macD (secS a b sh) (sb zf9 ++ zhs a nc mine))
 rw [e1, e2] at hT
 clear e1 e2
 have hD := zev (secS a b sh) (sb zf9 ++ zhs a nc mine)
 have hTd : (macD (secS a b sh) (sb zf9 ++ zhs a nc mine)).take 16 = helT a b sh nc mine := rfl
 obtain ⟨u4, hu4⟩ : ∃ u, strOfNums (zaq nc 8) ++ strOfNums (zdj a) = u := ⟨_, rfl⟩
 obtain ⟨u5, hu5⟩ : ∃ u, u4 ++ strOfNums (helT a b sh nc mine) = u := ⟨_, rfl⟩
 have z4 : u4.size = 16 := by rw [← hu4, zbY, zN, zM]
 have z5 : u5.size = 32 := by rw [← hu5, zbY, z4, zT]
 have zs5 : sb u5 = helB a b sh nc mine := by
  rw [← hu5, zfi, zcv (helT_B a b sh nc mine), ← hu4, zfi, zcv (zfK a), zcv hNB]; rfl
 have hW := zc8 (helM a b sh nc mine) (by show (32 : Nat) ≤ _; decide)
 unfold mRes
 rw [hE]
 have hc : (helM a b sh nc mine).cells = [.p (.v (.int .i64 1)), .p (.v (.int .i64 mine)), .p (.v (.int .i64 0)), .p (.v (.int .i64 0)), .p (.sl 32 1 (bs (helB a b sh nc mine)))] := rfl
 rw [hc] at hW ⊢
 unfold MS0
 change Fn prog 82 _ (.tup [.p (.sl 8 1 (bs (zdj a))), .p (.v (.int .i64 0))]) [] at hMk
 clear hE hc h1 h2 hN1 hB hlen hNB
 generalize wE (helM a b sh nc mine) = e at *
 generalize helB a b sh nc mine = BB at *
 generalize helT a b sh nc mine = BT at *
 generalize sb zf9 ++ zhs a nc mine = Z at *
 generalize zdj a = BM at *
 generalize zaq nc 8 = BN at *
 generalize beI mine = BI at *
 generalize secS a b sh = K at *
 generalize macD K Z = D at *
 have hbl : (bs D).length = 32 := by rw [bs_length]; exact hD
 have hsub : ((bs D).drop 0).take (16 * 1) = bs BT := by rw [← hTd]; simp [bs, List.map_take]
 refine fnI fun w0 A => ?_
 refine G [10] ?_
 refine cV hS ?_
 refine G [10, 1, 1, 9, 0] ?_
 refine cX (fun h => ?_) fun h => ?_
 ·cases h
 refine jcM ?_
 refine cX (fun h => ?_) fun h => ?_
 ·simp [hz] at h
 refine G [4] ?_
 refine cV hH ?_
 refine G [10, 1, 1, 9, 0] ?_
 refine cX (fun h => ?_) fun h => ?_
 ·cases h
 refine G [4] ?_
 refine cK hMk ?_
 refine G [10] ?_
 refine cV hNu ?_
 refine jdq ?_
 refine zaa (zcU (by rw [zI]; decide) (show (⟨#[104, 101, 108, 108, 111]⟩ : ByteArray) ++ strOfNums BI = u1 from hu1)) rfl rfl ?_
 refine jcw ?_
 refine jdq ?_
 refine zaa (zcU (by rw [z1, zN]; decide) hu2) rfl rfl ?_
 refine jco ?_
 refine zab (zfz U62 U5 U9 (zbn) rfl rfl) rfl rfl trivial ?_
 refine zaa (zcU (by rw [z2, zM]; decide) hu3) rfl rfl ?_
 refine zab (zf7 62 U9 U62 U5 (by first | omega | (simp only [maxLen]; omega)) z3 zs3) rfl rfl ⟨rfl, trivial⟩ ?_
 refine cV hT ?_
 refine G [10] ?_
 refine jdq ?_
 refine jco ?_
 refine zab (zfz U62 U5 U9 (zbn) rfl rfl) rfl rfl trivial ?_
 refine zaa (zcU (by rw [zN, zM]; decide) hu4) rfl rfl ?_
 refine jcw ?_
 refine jc9 ?_
 refine zab (zfz (xs := BT) U62 U5 U9 (src_psl (by omega) hsub) rfl rfl) rfl rfl ⟨rfl, trivial⟩ ?_
 refine zaa (zcU (by rw [z4, zT]; decide) hu5) rfl rfl ?_
 refine zab (zf7 76 U9 U62 U5 (by first | omega | (simp only [maxLen]; omega)) z5 zs5) rfl rfl ⟨rfl, trivial⟩ ?_
 refine G [4] ?_
 refine za2 (zc7 (cs := bs BB) 76 rfl) ?_
 refine G [4] ?_
 refine cV hW ?_
 refine jcq ?_
 refine cX (fun h => ?_) fun h => ?_
 ·have he : e ≠ 0 := by simpa using h
  rw [if_neg he]
  refine jcM ?_
  exact yE
 ·have he : e = 0 := by simpa using h
  rw [if_pos he]
  refine jcM ?_
  exact yE
theorem wenc_both (m : MS) (hx : m.xs.length = m.n) (hB : isB m.xs) (hn : m.n ≤ 140737488351232) : ∃ zs : List Int, isB zs ∧
  Fn prog 73 [.agg m.cells] (.tup [.p (.sl zs.length 1 (bs zs)), .p (.v (.int .i64 (wE m)))]) [] ∧ Fn prog 86 [.agg m.cells] (.tup [.row 0, .p (.v (.int .i64 (wE m)))]) [(0, .row 5 1 zs.length (bs zs))] := by
 by_cases hE : wE m = 0
 ·obtain ⟨ht, h1, h2, h3, h4, h5, h6, h7⟩ := wE_good hE
  have key : ∀ (p : Nat) (zs : List Int), isB zs → zs.length = p → Fn prog 73 [.agg m.cells] (.tup [.row 0, .p (.v (.int .i64 0))]) [(0, .row 5 1 p (bs zs))] → Fn prog 86 [.agg m.cells] (.tup [.row 0, .p (.v (.int .i64 0))]) [(0, .row 5 1 p (bs zs))] → ∃ zs : List Int, isB zs ∧
    Fn prog 73 [.agg m.cells] (.tup [.p (.sl zs.length 1 (bs zs)), .p (.v (.int .i64 (wE m)))]) [] ∧ Fn prog 86 [.agg m.cells] (.tup [.row 0, .p (.v (.int .i64 (wE m)))]) [(0, .row 5 1 zs.length (bs zs))] := by
   intro p zs hb hl c1 c2
   subst hl
   rw [hE]
   exact ⟨zs, hb, fn_fz c1 rfl rfl, c2⟩
  rcases ht with ht | ht | ht
  ·exact key _ _ (zbg (zbg (show isB _ from by unfold isB; decide) (zhp _ _)) hB) (by simp [leN, hx]; omega) (wenc1_s m ht hE hx h1 h2 h3 h4 h5 h6 h7) (refWBytes1_s m ht hE hx hB h1 h2 h3 h4 h5 h6 h7)
  ·exact key _ _ (zbg (zbg (zbg (show isB _ from by unfold isB; decide) (zhp _ _)) (zhp _ _)) hB) (by simp [leN, hx]; omega) (wenc2_s m ht hE hx h1 h2 h3 h4 h5 h6 h7) (refWBytes2_s m ht hE hx hB h1 h2 h3 h4 h5 h6 h7)
  ·exact key _ _ (zbg (zbg (zbg (show isB _ from by unfold isB; decide) (zhp _ _)) (zhp _ _)) hB) (by simp [leN, hx]; omega) (wenc4_s m ht hE hx h1 h2 h3 h4 h5 h6 h7) (refWBytes4_s m ht hE hx hB h1 h2 h3 h4 h5 h6 h7)
 ·refine ⟨[], (fun x h => by cases h), ?_, ?_⟩
  ·exact fn_nzT (wenc_bad m hn hE) ⟨.inl (.inr ⟨1, rfl, rfl⟩), .inl (.inl rfl), trivial⟩
  ·exact fn_nrow (refWBytes_bad m hn hE)
def ms0 : MS := ⟨0, 0, 0, 0, 0, []⟩
def helX (a b sh nc : ByteArray) (mine : Int) : MS := if helE a b sh nc mine = 0 then helM a b sh nc mine else ms0
theorem mRes_d {f : FuncId} {args : List AV} {e : Int} {m : MS} (h : Fn prog f args (mRes e m) []) : Fn prog f args (.tup [.agg (if e = 0 then m else ms0).cells, .p (.v (.int .i64 e))]) [] := by
 by_cases he : e = 0
 ·rw [mRes_good he] at h
  rw [if_pos he, he]
  exact h
 ·rw [zew rfl he] at h
  rw [if_neg he]
  exact fn_nzT h ⟨.inr ⟨_, _, rfl, rfl, .inl rfl, .inl rfl, .inl rfl, .inl rfl, .inr ⟨1, rfl, rfl⟩, trivial⟩, .inl (.inl rfl), trivial⟩
theorem helloD_s (a b sh nc : ByteArray) (mine : Int) (hsh : sh.size ≤ 140737488351232) :
  Fn prog 35 [.p (.v (.string a)), .p (.v (.string b)), .p (.v (.string sh)), .p (.v (.int .i64 mine)), .p (.v (.string nc))] (.tup [.agg (helX a b sh nc mine).cells, .p (.v (.int .i64 (helE a b sh nc mine)))]) [] := mRes_d (hello_s a b sh nc mine hsh)
theorem refHelloD_s (a b sh nc : ByteArray) (mine : Int) (m0 : -9223372036854775808 ≤ mine) (m1 : mine ≤ 9223372036854775807) (hsh : sh.size ≤ 140737488351232) :
  Fn prog 45 [.p (.v (.string a)), .p (.v (.string b)), .p (.v (.string sh)), .p (.v (.int .i64 mine)), .p (.v (.string nc))] (.tup [.agg (helX a b sh nc mine).cells, .p (.v (.int .i64 (helE a b sh nc mine)))]) [] := mRes_d (refHello_s a b sh nc mine m0 m1 hsh)
theorem helX_ok (a b sh nc : ByteArray) (mine : Int) : (helX a b sh nc mine).xs.length = (helX a b sh nc mine).n ∧ isB (helX a b sh nc mine).xs ∧ (helX a b sh nc mine).n ≤ 300 := by
 unfold helX
 split
 ·rename_i h
  have hN : noE nc = 0 := by
   unfold helE at h
   by_cases h1 : secE a b sh ≠ 0
   ·rw [if_pos h1] at h; exact absurd h h1
   ·rw [if_neg h1] at h
    by_cases h2 : noE nc ≠ 0
    ·rw [if_pos h2] at h; exact absurd h h2
    ·omega
  exact ⟨helB_len _ _ _ _ _, zbg (zbg (noE_B hN) (zfK _)) (helT_B _ _ _ _ _), by simp [helM]⟩
 ·exact ⟨rfl, (fun x h => by cases h), by simp [ms0]⟩
theorem fm_get {α β : Type} {f : α → List β} {k : Nat} (hf : ∀ x, (f x).length = k) {l : List α} {i : Nat} {x : α} (hx : l[i]? = some x) {q : Nat} (hq : q < k) : (l.flatMap f)[i * k + q]? = (f x)[q]? := by
 have h := zar (f := f) (k := k) hf hx
 rw [← h, List.getElem?_take, if_pos hq, List.getElem?_drop]
theorem ziu {α β : Type} {f : α → List β} {k : Nat} (hf : ∀ x, (f x).length = k) {l : List α} {i : Nat} {x : α} (hx : l[i]? = some x) {q n : Nat} (hq : q + n ≤ k) : ((l.flatMap f).drop (i * k + q)).take n = ((f x).drop q).take n := by
 have h := zar (f := f) (k := k) hf hx
 rw [← h, List.drop_take, List.take_take, List.drop_drop, Nat.min_eq_left (by omega)]
theorem zef {α β : Type} {f : α → List β} {k : Nat} (hf : ∀ x, (f x).length = k) {l : List α} {i : Nat} {x : α} (hx : l[i]? = some x) {q : Nat} {ys : List β} {x' : α} (hq : q + ys.length ≤ k) (h : setR (f x) q ys = f x') : setR (l.flatMap f) (i * k + q) ys = (l.set i x').flatMap f := by
 obtain ⟨hi, rfl⟩ := List.getElem?_eq_some_iff.1 hx
 have e : l = l.take i ++ l[i] :: l.drop (i + 1) := by rw [List.getElem_cons_drop, List.take_append_drop]
 have hl : ((l.take i).flatMap f).length = i * k := by rw [zaZ hf, List.length_take, Nat.min_eq_left (by omega)]
 rw [List.set_eq_take_append_cons_drop, if_pos hi, List.flatMap_append, List.flatMap_cons, ← h]
 conv => lhs; rw [e, List.flatMap_append, List.flatMap_cons]
 generalize (l.take i).flatMap f = T at *
 generalize (l.drop (i + 1)).flatMap f = D at *
 have hk := hf l[i]
 generalize f l[i] = M at *
 unfold setR
 rw [List.take_append, List.drop_append, List.take_append, List.drop_append, hl]
 rw [List.take_of_length_le (by omega), List.drop_eq_nil_of_le (by omega)]
 rw [show i * k + q - i * k = q by omega, show i * k + q + ys.length - i * k = q + ys.length by omega]
 rw [show q - M.length = 0 by omega, show q + ys.length - M.length = 0 by omega]
 simp
def moV (d : DM) (S L : AV) : List AV := [.p (.v (.string d.c.key)), .p (.v (.int .i64 d.c.port)), .p (.sl d.c.ps.length 5 (d.c.ps.flatMap PE.pv)), .p (ndsV d.tree), S, .p (.v (.bool d.sg.lv)), .p (sesV d.sg.rest), .p (.v (.string d.sg.c.key)), .p (.v (.int .i64 d.sg.c.port)), .p d.sg.c.row, .p (.v (.string d.sg.at_)), .p (.v (.int .i64 d.sg.err)), .p (.v (.int .i64 d.gen)), .p (.v (.int .i64 d.now)), .p (.v (.int .i64 d.last)), L]
def moB (d : DM) (L : Nat) : Slot := .live (.box 43 (moV d (.row 1) (.row L)))
def moS (ps : List ST) : Slot := .live (.row 56 41 ps.length (ps.flatMap ST.pv))
def moL (ls : List LR) : Slot := .live (.row 64 3 ls.length (ls.flatMap LR.pv))
theorem mosend_s (d : DM) (ps : List ST) (ls : List LR) (i : Nat) (s : ST) (hs : ps[i]? = some s) (m : MS) (zs : List Int) (e : Int) (hW : Fn prog 73 [.agg m.cells] (.tup [.p (.sl zs.length 1 (bs zs)), .p (.v (.int .i64 e))]) []) (hp : ps.length ≤ 1048576) (hl : ls.length ≤ 1048576) :
  FnO prog 36 [.ref 0 0, .p (.v (.int .i64 i)), .agg m.cells] [(0, moB d 7), (1, moS ps), (7, moL ls), (5, .un), (29, .un), (30, .un)]
   [(0, moB d 30), (1, moS ps), (7, .dead), (5, .live (.box 97 m.cells)), (29, .live (.row 64 3 1 (LR.pv ⟨⟨#[]⟩, s.ep, zs⟩))), (30, moL (ls ++ [⟨⟨#[]⟩, s.ep, zs⟩]))] (.tup []) := by
 have hi : i < ps.length := (List.getElem?_eq_some_iff.1 hs).1
 have hep : (ps.flatMap ST.pv)[i * 41 + 1]? = some (.v (.string s.ep)) := fm_get (f := ST.pv) (k := 41) (fun _ => rfl) hs (by decide)
 unfold moL moS
 rw [List.length_append, List.flatMap_append]
 show FnO prog _ _ _ [_, _, _, _, _, (30, .live (.row 64 3 (ls.length + 1) (ls.flatMap LR.pv ++ LR.pv ⟨⟨#[]⟩, s.ep, zs⟩)))] _
 generalize ls.flatMap LR.pv = L at *
 generalize ls.length = N at *
 generalize ps.flatMap ST.pv = S at *
 generalize ps.length = K at *
 generalize s.ep = ep at *
 refine fnIO fun w0 A heap => ?_
 refine G [7] ?_
 refine cK hW ?_
 refine G [20] ?_
 refine jdA (zaO U9 rfl hep) ?_
 refine G [2] ?_
 refine zab (xs := [.agg (LR.cells ⟨⟨#[]⟩, ep, zs⟩)]) (zae (es := (LR.cells ⟨⟨#[]⟩, ep, zs⟩)) (cs := (LR.pv ⟨⟨#[]⟩, ep, zs⟩)) 29 underlying33 sz64 zc64 (Nat.le_of_ble_eq_true rfl) (Nat.le_of_ble_eq_true rfl) rfl (by kernel_rfl) (by kernel_rfl) (by kernel_rfl) (Nat.le_of_ble_eq_true rfl)) (by first | rfl | kernel_rfl) rfl ⟨rfl, trivial⟩ ?_
 refine zab (zal 30 underlying33 eo64 (zax) (by simp only [maxLen]; omega) (by omega) rfl rfl) rfl rfl ⟨rfl, rfl, rfl, trivial⟩ ?_
 refine G [4] ?_
 skip
 exact jaF
theorem moagain_s (d : DM) (ps : List ST) (ls : List LR) (i : Nat) (s : ST) (hs : ps[i]? = some s) (p : PE) (hp : d.c.ps[i]? = some p) (m : MS) (e : Int) (hH : Fn prog 35 [.p (.v (.string d.c.key)), .p (.v (.string p.key)), .p (.v (.string p.sh)), .p (.v (.int .i64 s.h.mine)), .p (.v (.string s.h.nc))] (.tup [.agg m.cells, .p (.v (.int .i64 e))]) [])
  (zs : List Int) (e' : Int) (hW : Fn prog 73 [.agg m.cells] (.tup [.p (.sl zs.length 1 (bs zs)), .p (.v (.int .i64 e'))]) []) (hn : ps.length ≤ 1048576) (hl : ls.length ≤ 1048576) (hc : d.c.ps.length ≤ 1048576) :
  FnO prog 10 [.ref 0 0, .p (.v (.int .i64 i))] [(0, moB d 7), (1, moS ps), (7, moL ls), (4, .un), (5, .un), (6, .un), (29, .un), (30, .un)]
   [(0, moB d 30), (1, moS (ps.set i { s with h := { s.h with s := d.now } })), (7, .dead), (4, .live (.box 84 p.cells)), (5, .live (.box 97 m.cells)), (6, .live (.box 97 m.cells)), (29, .live (.row 64 3 1 (LR.pv ⟨⟨#[]⟩, s.ep, zs⟩))), (30, moL (ls ++ [⟨⟨#[]⟩, s.ep, zs⟩]))] (.tup []) := by
 have hi : i < ps.length := (List.getElem?_eq_some_iff.1 hs).1
 have hj : i < d.c.ps.length := (List.getElem?_eq_some_iff.1 hp).1
 have hs2 : (ps.set i { s with h := { s.h with s := d.now } })[i]? = some { s with h := { s.h with s := d.now } } := by rw [List.getElem?_set_self hi]
 have hS := mosend_s d _ ls i _ hs2 m zs e' hW (by simpa using hn) hl
 have hst : setR (ps.flatMap ST.pv) (i * 41 + 35 + 4) [.v (.int .i64 d.now)] = (ps.set i { s with h := { s.h with s := d.now } }).flatMap ST.pv := zef (f := ST.pv) (k := 41) (fun _ => rfl) hs (q := 39) (show 39 + 1 ≤ 41 by decide) rfl
 have hmi : ((ps.set i { s with h := { s.h with s := d.now } }).flatMap ST.pv)[i * 41 + 35 + 1]? = some (.v (.int .i64 s.h.mine)) := fm_get (f := ST.pv) (k := 41) (fun _ => rfl) hs2 (q := 36) (by decide)
 have hno : ((ps.set i { s with h := { s.h with s := d.now } }).flatMap ST.pv)[i * 41 + 35 + 2]? = some (.v (.string s.h.nc)) := fm_get (f := ST.pv) (k := 41) (fun _ => rfl) hs2 (q := 37) (by decide)
 have hch := zar (f := PE.pv) (k := 5) (fun _ => rfl) hp
 have hle := zas (f := PE.pv) (k := 5) (fun _ => rfl) hj
 have hsl : (ps.flatMap ST.pv).length = ps.length * 41 := zaZ (f := ST.pv) (k := 41) (fun _ => rfl) ps
 unfold moS at hS ⊢
 rw [List.length_set] at hS ⊢
 generalize (ps.set i { s with h := { s.h with s := d.now } }).flatMap ST.pv = S' at *
 generalize ps.flatMap ST.pv = S at *
 generalize ps.length = K at *
 refine fnIO fun w0 A heap => ?_
 refine G [10] ?_
 refine zaa (zaI U84 rfl sz84 (by rw [List.length_drop]; omega) (hch)) rfl rfl ?_
 refine G [9] ?_
 refine jcQ ?_
 refine G [12] ?_
 refine zab (zbB (Y := .p (.v (.int .i64 d.now))) (ys := [.v (.int .i64 d.now)]) sz3 rfl rfl rfl (by omega) hst) rfl rfl ⟨rfl, trivial⟩ ?_
 refine G [16] ?_
 refine jdA (zaO U3 rfl hmi) ?_
 refine G [3] ?_
 refine jdA (zaO U9 rfl hno) ?_
 refine cK hH ?_
 refine G [4] ?_
 refine jdA (zaf (Y := .agg m.cells) sz97 rfl rfl (Nat.eq_of_beq_eq_true rfl)) ?_
 refine G [5] ?_
 refine jcU ?_
 refine zbe (hS) rfl rfl func36 rfl rfl (by repeat (first | exact trivial | refine ⟨rfl, ?_⟩)) rfl ?_
 refine zac ?_
 skip
 refine ⟨(by first | exact .inl rfl | exact .inr rfl), ⟨_, .nil, ?_⟩, ?_, ?_⟩
 ·exact rfl
 ·exact jbm
 ·exact jao
theorem moagainD_s (d : DM) (ps : List ST) (ls : List LR) (i : Nat) (s : ST) (hs : ps[i]? = some s) (p : PE) (hp : d.c.ps[i]? = some p) (m : MS) (e : Int) (hH : Fn prog 35 [.p (.v (.string d.c.key)), .p (.v (.string p.key)), .p (.v (.string p.sh)), .p (.v (.int .i64 s.h.mine)), .p (.v (.string s.h.nc))] (.tup [.agg m.cells, .p (.v (.int .i64 e))]) [])
  (zs : List Int) (e' : Int) (hW : Fn prog 73 [.agg m.cells] (.tup [.p (.sl zs.length 1 (bs zs)), .p (.v (.int .i64 e'))]) []) (hn : ps.length ≤ 1048576) (hl : ls.length ≤ 1048576) (hc : d.c.ps.length ≤ 1048576) :
  FnO prog 10 [.ref 0 0, .p (.v (.int .i64 i))] [(0, moB d 7), (1, moS ps), (7, moL ls), (4, .un), (5, .un), (6, .un), (29, .un), (30, .un)]
   [(0, moB d 30), (1, moS (ps.set i { s with h := { s.h with s := d.now } })), (7, .dead), (30, moL (ls ++ [⟨⟨#[]⟩, s.ep, zs⟩]))] (.tup []) :=
 zgl [4, 5, 6, 29] (moagain_s d ps ls i s hs p hp m e hH zs e' hW hn hl hc) rfl rfl rfl rfl
def moD (d : DM) (S : AV) : List AV := (moV d S .any).take 15
def zdmC : List AV := dmC ⟨#[]⟩ 0 (.v (.slice none 0 0)) (.v (.slice none 0 0)) (.v (.slice none 0 0)) false (.v (.slice none 0 0)) ⟨#[]⟩ 0 (.v (.slice none 0 0)) ⟨#[]⟩ 0 0 0 0
theorem modone_s (d : DM) (h : d.last ≤ 4294967235) : FnO prog 11 [.ref 0 0] [(0, moB d 7), (2, .un)] [(0, moB d 7)] (.tup [.agg (moD d (.row 1)), .row 7, .p (.v (.int .i64 0))]) := by
 refine zgl [2] (wrs := [(0, moB d 7), (2, .live (.box 32 (moD d (.row 1))))]) ?_ rfl rfl rfl rfl
 refine fnIO fun w0 A heap => ?_
 refine G [14, 3, 8] ?_
 refine jcV ?_
 refine G [4] ?_
 refine jdA (zaf (Y := .agg (moD d (.row 1))) sz32 rfl rfl (Nat.eq_of_beq_eq_true rfl)) ?_
 refine G [4] ?_
 refine ⟨(by first | exact .inl rfl | exact .inr rfl), ⟨_, (.cellN _ _ _ _ _ _ _ _ _ rfl rfl U32 rfl sz32 rfl (.tmp _ _ _ _ rfl (.tmp _ _ _ _ rfl .nil))), rfl⟩, ?_, ?_⟩
 ·exact jbm
 ·exact jao
end Go.Proofs.YtbjdjclkbjpebaaGreatDoor
