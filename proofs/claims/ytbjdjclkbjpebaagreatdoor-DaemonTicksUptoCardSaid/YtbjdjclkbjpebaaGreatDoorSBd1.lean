/- mac.keyed and mac.Tag, over data. -/
import Derived.Test.YtbjdjclkbjpebaaGreatDoorSMa3
import Derived.Test.YtbjdjclkbjpebaaGreatDoorSHx
import Derived.Test.YtbjdjclkbjpebaaGreatDoorSShb
import Derived.Test.YtbjdjclkbjpebaaGreatDoorSEq3
import Derived.Test.YtbjdjclkbjpebaaGreatDoorSUtZ
import Derived.Test.YtbjdjclkbjpebaaGreatDoorSMa4
namespace Go.Proofs.YtbjdjclkbjpebaaGreatDoor
open Tryz
open Go.RowKit Go.Sort
set_option maxHeartbeats 16000000
set_option linter.unusedVariables false
set_option linter.unusedSimpArgs false
set_option maxRecDepth 100000
def xb (x c : Int) : Int := bits .xor .u8 x c
theorem xb_B (x c : Int) : 0 ≤ xb x c ∧ xb x c < 256 := by
 have e : xb x c = IntKind.u8.wrap ((BitVec.ofInt 8 x ^^^ BitVec.ofInt 8 c).toNat : Int) := rfl
 rw [e, IntKind.wrap_u8]; omega
def kz (ks : List Int) : List Int := ks ++ List.replicate 32 0
def kyd (ks : List Int) (c : Int) : List Int := (kz ks).map fun x => xb x c
def kyK (L : List Int) (c : Int) (k : Nat) : List Int := (L.take k).map (fun x => xb x c) ++ L.drop k
theorem kyd_B (ks : List Int) (c : Int) : isB (kyd ks c) := by
 intro x hx
 obtain ⟨y, _, rfl⟩ := List.mem_map.1 hx
 exact xb_B _ _
theorem kz_len {ks : List Int} (h : ks.length = 32) : (kz ks).length = 64 := by simp [kz, h]
theorem zik {ks : List Int} (c : Int) (h : ks.length = 32) : (kyd ks c).length = 64 := by simp [kyd, kz_len h]
theorem kyK_len (L : List Int) (c : Int) (k : Nat) (h : k ≤ L.length) : (kyK L c k).length = L.length := by simp [kyK]; omega
theorem kyK_at {L : List Int} {c : Int} {k : Nat} {x : Int} (h : L[k]? = some x) : (kyK L c k)[k]? = some x ∧ (kyK L c k).set k (xb x c) = kyK L c (k + 1) := by
 have hk := (List.getElem?_eq_some_iff.1 h).1
 have e := (List.getElem?_eq_some_iff.1 h).2
 have hl : ((L.take k).map fun x => xb x c).length = k := by simp; omega
 constructor
 ·rw [kyK, List.getElem?_append_right (by omega), hl, Nat.sub_self, List.getElem?_drop, Nat.add_zero, h]
 ·rw [kyK, List.set_append_right _ _ (by omega), hl, Nat.sub_self, List.drop_eq_getElem_cons hk, List.set_cons_zero, kyK, List.take_succ_eq_append_getElem hk, List.map_append, e]
  simp
theorem keyed_s (ks : List Int) (c : Int) (hl : ks.length = 32) : Fn prog 144 [.p (.sl 32 1 (bs ks)), .p (.v (.int .u8 c))] (.row 0) [(0, .row 5 1 64 (bs (kyd ks c)))] := by
 have hcp : setR (List.replicate 64 (PV.v (.int .u8 0))) 0 (bs ks) = bs (kz ks) := by
  simp [setR, kz, bs, hl]
 have hzl := kz_len hl
 have hfin : kyd ks c = kyK (kz ks) c 64 := by simp only [kyd, kyK]; rw [List.take_of_length_le (by omega), List.drop_of_length_le (by omega), List.append_nil]
 rw [hfin]
 clear hfin
 refine fnI fun w0 A => ?_
 refine G [6] ?_
 refine zab (zhm 7 U62 eo5 zr5 rfl (by omega) (by omega) (by omega) (by simp only [maxLen]; omega) (show _ = 64 from rfl)) rfl rfl ⟨rfl, trivial⟩ ?_
 refine G [6] ?_
 refine zab (a_copy U62 sz5 (zbn) (by omega) (by omega) (List.length_replicate) hcp) rfl rfl ⟨rfl, trivial⟩ ?_
 refine G [3] ?_
 generalize kz ks = L at hzl
 refine G [6] ?_
 refine zag (fun m st => ∃ k : Nat, m + k = 64 ∧ st = St.of [(1, .p (.v (.int .u8 c))), (5, .row 5), (12, .p (.v (.int .i64 64))), (13, .p (.v (.int .i64 k)))] [(5, .row 5 1 64 (bs (kyK L c k)))]) 64 ?_ ?_
 ·refine ⟨_, zah (fun _ => 7) _ _ ?_ ?_ rfl, 0, by omega, rfl⟩
  ·exact jak
  ·exact ⟨⟨rfl, rfl⟩, trivial⟩
 rintro m st ⟨k, hk, rfl⟩
 refine G [5] ?_
 refine cX (fun h => ?_) fun h => ?_
 ·have hlt : k < 64 := by simp at h; omega
  clear h
  obtain ⟨x, hx⟩ : ∃ x, L[k]? = some x := ⟨L[k]'(by omega), List.getElem?_eq_getElem (by omega)⟩
  obtain ⟨g1, g2⟩ := kyK_at (c := c) hx
  have g3 := ziz g1
  have g5 : (bs (kyK L c k)).length = 64 := by rw [bs_length, kyK_len _ _ _ (by omega), hzl]
  have g4 : setR (bs (kyK L c k)) k [.v (.int .u8 (xb x c))] = bs (kyK L c (k + 1)) := by rw [zhd (by rw [bs_length] at g5; omega), g2]
  refine G [11] ?_
  refine zab (zan U62 sz5 (by omega) (by omega) (show _ = k by omega)) rfl rfl ⟨rfl, trivial⟩ ?_
  refine jdA (zaO U5 rfl g3) ?_
  refine jco ?_
  refine zaa (zaU (by simp) (show _ = xb x c from rfl)) rfl rfl ?_
  refine zab (zan U62 sz5 (by omega) (by omega) (show _ = k by omega)) rfl rfl ⟨rfl, trivial⟩ ?_
  refine jc0 ?_
  refine jct ?_
  refine jcG ?_ ?_
  ·exact jak
  ·exact ⟨⟨rfl, rfl⟩, trivial⟩
 have hge : k = 64 := by simp at h; omega
 clear h
 subst hge
 exact jbB
def macE (s : ByteArray) (n : Nat) : Int := if keyE s = 0 then (if 936 < n then 1 else 0) else keyE s
def macD (s : ByteArray) (b : List Int) : List Int := shaD (kyd (zaq s 32) 92 ++ shaD (kyd (zaq s 32) 54 ++ b))
theorem zdI {s : ByteArray} {k : Nat} (hg : zcp s = true) (hk : 2 * k ≤ s.size) : isB (zaq s k) := by
 intro x hx
 simp only [zaq, List.mem_map, List.mem_range] at hx
 obtain ⟨j, hj, rfl⟩ := hx
 have h1 := (zbP s).1 hg (2 * j) (by omega)
 have h2 := (zbP s).1 hg (2 * j + 1) (by omega)
 have h3 : hv s (2 * j) ≤ 15 := (hx_bd _).2
 have h4 : hv s (2 * j + 1) ≤ 15 := (hx_bd _).2
 omega
theorem zb6 {s : ByteArray} (h : keyE s = 0) : s.size = 64 ∧ hexE s = 0 := by
 unfold keyE at h
 split at h
 ·exact ⟨by assumption, h⟩
 ·omega
theorem zbg {xs ys : List Int} (h : isB xs) (k : isB ys) : isB (xs ++ ys) := fun x hx => (List.mem_append.1 hx).elim (h x) (k x)
theorem tag_s (s : ByteArray) (n : Nat) (b : List Int) (hn : b.length = n) (hb : isB b) : Fn prog 105 [.p (.v (.string s)), .p (.sl n 1 (bs b))] (bRes (macE s n)) (bNew (macE s n) 32 (macD s b)) := by
 refine fnI fun w0 A => ?_
 refine G [9] ?_
 refine cV (zbf s) ?_
 refine jcq ?_
 refine cX (fun h => ?_) fun h => ?_
 ·exact jbE
 have h2 : keyE s = 0 := by simpa using h
 clear h
 refine jcM ?_
 refine cX (fun h => ?_) fun h => ?_
 ·exact jby
 have h3 : n ≤ 936 := by simp at h; omega
 clear h
 obtain ⟨e1, e2⟩ := zaW (show macE s n = 0 by unfold macE; rw [if_pos h2, if_neg (by omega)]) 32 (macD s b)
 rw [e1, e2]
 clear e1 e2
 obtain ⟨hsz, hE⟩ := zb6 h2
 have hH := zci s
 obtain ⟨e1, e2⟩ := za1 hE
 rw [e1, e2, hsz] at hH
 clear e1 e2
 have hkl : (zaq s 32).length = 32 := zaP s 32
 have hc1 := keyed_s (zaq s 32) 54 hkl
 have hc2 := keyed_s (zaq s 32) 92 hkl
 have hl1 := zik 54 hkl
 have hl2 := zik 92 hkl
 have hb1 := kyd_B (zaq s 32) 54
 have hb2 := kyd_B (zaq s 32) 92
 unfold macD
 change Fn prog 88 _ _ [(0, .row 5 1 32 (bs (zaq s 32)))] at hH
 generalize zaq s 32 = K at hH hkl hc1 hc2 hl1 hl2 hb1 hb2 ⊢
 generalize kyd K 54 = K1 at hc1 hl1 hb1 ⊢
 generalize kyd K 92 = K2 at hc2 hl2 hb2 ⊢
 have hs1 := sum_s (64 + n) (K1 ++ b) (by rw [List.length_append]; omega) (zbg hb1 hb)
 obtain ⟨e1, e2⟩ := zaW (show padE (64 + n) = 0 by unfold padE; rw [if_neg (by omega)]) 32 (shaD (K1 ++ b))
 rw [e1, e2, ← zbp] at hs1
 clear e1 e2
 have hD := zhB (K1 ++ b)
 have hDl := zfh (K1 ++ b)
 generalize shaD (K1 ++ b) = D at hs1 hD hDl ⊢
 have hs2 := sum_s (64 + 32) (K2 ++ D) (by rw [List.length_append]; omega) (zbg hb2 hD)
 obtain ⟨e1, e2⟩ := zaW (show padE (64 + 32) = 0 from rfl) 32 (shaD (K2 ++ D))
 rw [e1, e2, ← zbp] at hs2
 clear e1 e2
 generalize shaD (K2 ++ D) = E at hs2 ⊢
 refine G [4] ?_
 refine cV hH ?_
 refine G [9] ?_
 refine cV hc1 ?_
 refine jco ?_
 refine zab (zal 28 U62 eo5 (zbn) (by simp only [maxLen]; omega) (by omega) rfl rfl) rfl rfl ⟨rfl, rfl, trivial⟩ ?_
 refine cV hs1 ?_
 refine G [9] ?_
 refine cV hc2 ?_
 refine jcw ?_
 refine zab (zal 35 U62 eo5 (zax) (by simp only [maxLen]; omega) (by omega) rfl rfl) rfl rfl ⟨rfl, rfl, rfl, trivial⟩ ?_
 refine cV hs2 ?_
 refine jcs ?_
 refine yT (fun _ => 36) ?_ ?_
 ·exact rfl
 ·exact ⟨⟨rfl, rfl⟩, trivial⟩
end Go.Proofs.YtbjdjclkbjpebaaGreatDoor
namespace Go.Proofs.YtbjdjclkbjpebaaGreatDoor
open Go.RowKit Go.Sort
set_option maxHeartbeats 16000000
set_option linter.unusedVariables false
set_option linter.unusedSimpArgs false
set_option maxRecDepth 100000
def kx (ks : List Int) (c : Int) (i : Nat) : List Int := ((kz ks).take i).map fun x => xb x c
theorem kx_next {ks : List Int} {c : Int} {i : Nat} {x : Int} (h : (kz ks)[i]? = some x) : kx ks c (i + 1) = kx ks c i ++ [xb x c] := by
 have hk := (List.getElem?_eq_some_iff.1 h).1
 have e := (List.getElem?_eq_some_iff.1 h).2
 rw [kx, List.take_succ_eq_append_getElem hk, List.map_append, e]; rfl
theorem kx_full {ks : List Int} (c : Int) (h : ks.length = 32) : kx ks c 64 = kyd ks c := by
 rw [kx, List.take_of_length_le (by rw [kz_len h]; omega)]; rfl
theorem refTag_s (s : ByteArray) (n : Nat) (b : List Int) (hn : b.length = n) (hb : isB b) : Fn Tryz.prog 83 [.p (.v (.string s)), .p (.sl n 1 (bs b))] (bRes (macE s n)) (bNew (macE s n) 32 (macD s b)) := by
 refine fnI fun w0 A => ?_
 refine G [9] ?_
 refine cV (za9 s) ?_
 refine jcq ?_
 refine cX (fun h => ?_) fun h => ?_
 ·exact jbE
 have h2 : keyE s = 0 := by simpa using h
 clear h
 refine jcM ?_
 refine cX (fun h => ?_) fun h => ?_
 ·exact jby
 have h3 : n ≤ 936 := by simp at h; omega
 clear h
 obtain ⟨e1, e2⟩ := zaW (show macE s n = 0 by unfold macE; rw [if_pos h2, if_neg (by omega)]) 32 (macD s b)
 rw [e1, e2]
 clear e1 e2
 obtain ⟨hsz, hE⟩ := zb6 h2
 have hH := zcw s
 obtain ⟨e1, e2⟩ := za1 hE
 rw [e1, e2, hsz] at hH
 clear e1 e2
 have hkl : (zaq s 32).length = 32 := zaP s 32
 have hl1 := zik 54 hkl
 have hl2 := zik 92 hkl
 have hb1 := kyd_B (zaq s 32) 54
 have hb2 := kyd_B (zaq s 32) 92
 have hf1 := kx_full 54 hkl
 have hf2 := kx_full 92 hkl
 unfold macD
 change Fn Tryz.prog 81 _ _ [(0, .row 5 1 32 (bs (zaq s 32)))] at hH
 generalize zaq s 32 = K at hH hkl hl1 hl2 hb1 hb2 hf1 hf2 ⊢
 generalize kyd K 54 = K1 at hl1 hb1 hf1 ⊢
 generalize kyd K 92 = K2 at hl2 hb2 hf2 ⊢
 have hs1 := zgc (64 + n) (K1 ++ b) (by rw [List.length_append]; omega) (zbg hb1 hb)
 obtain ⟨e1, e2⟩ := zaW (show padE (64 + n) = 0 by unfold padE; rw [if_neg (by omega)]) 32 (shaD (K1 ++ b))
 rw [e1, e2, ← zbp] at hs1
 clear e1 e2
 have hD := zhB (K1 ++ b)
 have hDl := zfh (K1 ++ b)
 generalize shaD (K1 ++ b) = D at hs1 hD hDl ⊢
 have hs2 := zgc (64 + 32) (K2 ++ D) (by rw [List.length_append]; omega) (zbg hb2 hD)
 obtain ⟨e1, e2⟩ := zaW (show padE (64 + 32) = 0 from rfl) 32 (shaD (K2 ++ D))
 rw [e1, e2, ← zbp] at hs2
 clear e1 e2
 generalize shaD (K2 ++ D) = E at hs2 ⊢
 have hzl := kz_len hkl
 refine G [4] ?_
 refine cV hH ?_
 refine G [13] ?_
 refine za8 (zco 9 9 5 1 rfl rfl) ?_
 refine za8 (zco 10 10 5 1 rfl rfl) ?_
 refine G [4] ?_
 refine zag (fun m st => ∃ i : Nat, m + i = 64 ∧ st = St.of [(1, .p (.sl n 1 (bs b))), (7, .row 7), (9, .row 9), (10, .row 10), (11, .p (.v (.int .i64 i)))] [(7, .row 5 1 32 (bs K)), (9, .row 5 1 i (bs (kx K 54 i))), (10, .row 5 1 i (bs (kx K 92 i)))]) 64 ?_ ?_
 ·refine ⟨_, zah (fun o => bif Nat.beq o 7 then 25 else o) _ _ ?_ ?_ rfl, 0, by omega, rfl⟩
  ·exact jak
  ·exact jaC
 rintro m st ⟨i, hi, rfl⟩
 refine jcs ?_
 refine cX (fun h => ?_) fun h => ?_
 ·have hlt : i < 64 := by simp at h; omega
  clear h
  obtain ⟨x, hx⟩ : ∃ x, (kz K)[i]? = some x := ⟨(kz K)[i]'(by omega), List.getElem?_eq_getElem (by omega)⟩
  have n1 := kx_next (c := 54) hx
  have n2 := kx_next (c := 92) hx
  refine G [13, 9, 0] ?_
  refine cX (fun h => ?_) fun h => ?_
  ·have h32 : i < 32 := by simp at h; omega
   clear h
   have hxk : K[i]? = some x := by rw [kz, List.getElem?_append_left (by omega)] at hx; exact hx
   have g1 := ziz hxk
   skip
   refine G [3] ?_
   refine jdx ?_
   refine jdA (zaO U5 rfl g1) ?_
   refine G [6] ?_
   refine zaa (zaU (by simp) (show _ = xb x 54 from rfl)) rfl rfl ?_
   refine zab (xs := [.p (.v (.int .u8 (xb x 54)))]) (zae (es := [.p (.v (.int .u8 (xb x 54)))]) (cs := [.v (.int .u8 (xb x 54))]) 41 U62 sz5 zc5 (Nat.le_of_ble_eq_true rfl) (Nat.le_of_ble_eq_true rfl) rfl (by kernel_rfl) (by kernel_rfl) (by kernel_rfl) (Nat.le_of_ble_eq_true rfl)) (by first | rfl | kernel_rfl) rfl ⟨rfl, trivial⟩ ?_
   refine zab (zal 42 U62 eo5 (zax) (by simp only [maxLen]; omega) (by omega) rfl rfl) rfl rfl ⟨rfl, rfl, rfl, trivial⟩ ?_
   refine G [5] ?_
   refine zaa (zaU (by simp) (show _ = xb x 92 from rfl)) rfl rfl ?_
   refine zab (xs := [.p (.v (.int .u8 (xb x 92)))]) (zae (es := [.p (.v (.int .u8 (xb x 92)))]) (cs := [.v (.int .u8 (xb x 92))]) 46 U62 sz5 zc5 (Nat.le_of_ble_eq_true rfl) (Nat.le_of_ble_eq_true rfl) rfl (by kernel_rfl) (by kernel_rfl) (by kernel_rfl) (Nat.le_of_ble_eq_true rfl)) (by first | rfl | kernel_rfl) rfl ⟨rfl, trivial⟩ ?_
   exact jaH
  ·have h32 : 32 ≤ i := by simp at h; omega
   clear h
   have hx0 : x = 0 := by
    rw [kz, List.getElem?_append_right (by omega)] at hx
    exact List.eq_of_mem_replicate (List.mem_of_getElem? hx)
   subst hx0
   refine G [5] ?_
   refine zaa (zaU (by simp) (show _ = xb 0 54 from rfl)) rfl rfl ?_
   refine zab (xs := [.p (.v (.int .u8 (xb 0 54)))]) (zae (es := [.p (.v (.int .u8 (xb 0 54)))]) (cs := [.v (.int .u8 (xb 0 54))]) 41 U62 sz5 zc5 (Nat.le_of_ble_eq_true rfl) (Nat.le_of_ble_eq_true rfl) rfl (by kernel_rfl) (by kernel_rfl) (by kernel_rfl) (Nat.le_of_ble_eq_true rfl)) (by first | rfl | kernel_rfl) rfl ⟨rfl, trivial⟩ ?_
   refine zab (zal 42 U62 eo5 (zax) (by simp only [maxLen]; omega) (by omega) rfl rfl) rfl rfl ⟨rfl, rfl, rfl, trivial⟩ ?_
   refine G [5] ?_
   refine zaa (zaU (by simp) (show _ = xb 0 92 from rfl)) rfl rfl ?_
   refine zab (xs := [.p (.v (.int .u8 (xb 0 92)))]) (zae (es := [.p (.v (.int .u8 (xb 0 92)))]) (cs := [.v (.int .u8 (xb 0 92))]) 46 U62 sz5 zc5 (Nat.le_of_ble_eq_true rfl) (Nat.le_of_ble_eq_true rfl) rfl (by kernel_rfl) (by kernel_rfl) (by kernel_rfl) (Nat.le_of_ble_eq_true rfl)) (by first | rfl | kernel_rfl) rfl ⟨rfl, trivial⟩ ?_
   exact jaH
 have hge : i = 64 := by simp at h; omega
 clear h
 subst hge
 rw [hf1, hf2]
 refine G [5] ?_
 refine zab (zal 51 U62 eo5 (zbn) (by simp only [maxLen]; omega) (by omega) rfl rfl) rfl rfl ⟨rfl, rfl, trivial⟩ ?_
 refine cV hs1 ?_
 refine G [10] ?_
 refine zab (zal 57 U62 eo5 (zax) (by simp only [maxLen]; omega) (by omega) rfl rfl) rfl rfl ⟨rfl, rfl, rfl, trivial⟩ ?_
 refine cV hs2 ?_
 refine jcs ?_
 refine yT (fun _ => 58) ?_ ?_
 ·exact rfl
 ·exact ⟨⟨rfl, rfl⟩, trivial⟩
theorem zev (s : ByteArray) (b : List Int) : (macD s b).length = 32 := zfh _
theorem macD_B (s : ByteArray) (b : List Int) : isB (macD s b) := zhB _
theorem bs_hd (xs : List Int) (k : Nat) : bs (xs.take k) = ((bs xs).drop 0).take (k * 1) := by simp [bs, List.map_take]
end Go.Proofs.YtbjdjclkbjpebaaGreatDoor
namespace Go.Proofs.YtbjdjclkbjpebaaGreatDoor
open Tryz
open Go.RowKit Go.Sort
set_option linter.unusedVariables false
set_option linter.unusedSimpArgs false
set_option maxRecDepth 100000
def zhw : AObj := .box 183 [.p (.v (.pointer none)), .p (.v (.slice none 0 0))]
def bdAt (o r : Nat) : AObj := .box 183 [.ref o 0, .row r]
theorem check_new (B : AV) : FnO prog 159 [.ref 1 0] [(1, .live (.box 183 [.p (.v (.pointer none)), B]))] [(1, .live (.box 183 [.ref 1 0, B]))] (.tup []) := by
 refine fnIO fun w0 A heap => ?_
 refine G [6] ?_
 refine jdz (ziF underlying181) ?_
 refine zac (zaz (cX (fun h => ?_) fun h => ?_))
 ·skip
  refine G [3] ?_
  refine jdA (a_toUnsafe underlying181 underlying232 sz183) ?_
  refine zaa (a_noEscape func179 (by kernel_rfl) rfl rfl rfl) rfl rfl ?_
  refine zab (a_fromUnsafe underlying232 underlying181 sz183 (by kernel_rfl)) rfl rfl ⟨rfl, trivial⟩ ?_
  refine G [2] ?_
  refine zab (zb3 (Y := .ref _ _) sz181 rfl (by first | exact Nat.eq_of_beq_eq_true rfl | (simp only [AV.cells, List.length_map]; first | assumption | omega)) (by first | exact Nat.le_of_ble_eq_true rfl | omega | (simp only [AV.cells, List.length_map]; omega)) (by first | (simp only [setR, AV.cells, List.take_succ_cons, List.take_zero, List.drop_succ_cons, List.drop_zero, List.drop_nil, List.take_nil, List.nil_append, List.cons_append, List.append_nil, List.length_cons, List.length_nil, Nat.reduceAdd, Nat.zero_add, Nat.add_zero]; rfl) | rfl)) rfl rfl ⟨rfl, trivial⟩ ?_
  refine zac ?_
  skip
  exact jaF
 ·cases h
theorem check_used (B : AV) : FnO prog 159 [.ref 1 0] [(1, .live (.box 183 [.ref 1 0, B]))] [(1, .live (.box 183 [.ref 1 0, B]))] (.tup []) := by
 refine fnIO fun w0 A heap => ?_
 refine G [6] ?_
 refine jdz (a_peqRN underlying181) ?_
 refine zac (zaz (cX (fun h => ?_) fun h => ?_))
 ·cases h
 ·refine G [7] ?_
  refine jdz (a_pneRR underlying181 sz183) ?_
  refine zac (zaz (cX (fun h => ?_) fun h => ?_))
  ·cases h
  ·refine zap ?_
   exact jaF
theorem writeByte_new (c : Int) : FnO prog 143 [.ref 1 0, .p (.v (.int .u8 c))] [(1, .live zhw), (13, .un), (14, .un)]
  [(1, .live (bdAt 1 14)), (13, .dead), (14, .live (.row 5 1 1 (bs [c])))] (.p (.v .nilIface)) := by
 refine fnIO fun w0 A heap => ?_
 have hck := check_new (.p (.v (.slice none 0 0)))
 unfold zhw bdAt
 refine G [7] ?_
 refine zbe (hck) rfl rfl func159 rfl rfl (by repeat (first | exact trivial | refine ⟨rfl, ?_⟩)) rfl ?_
 refine G [9] ?_
 refine jcR ?_
 refine zab (zbR 14 U62 eo5 (zax) (by simp only [maxLen]; omega) (by omega)) rfl rfl ⟨rfl, rfl, trivial⟩ ?_
 refine G [8] ?_
 refine za2 (zbM 13) ?_
 refine zaE (⟨(by first | exact .inl rfl | exact .inr rfl), ⟨_, (.tmp _ _ _ _ rfl .nil), ?_⟩, ?_, ?_⟩)
 ·exact rfl
 ·exact jbm
 ·exact jao
theorem zdv (n : Nat) (xs : List Int) (c : Int) (hn : n ≤ 10000000) : FnO prog 143 [.ref 1 0, .p (.v (.int .u8 c))] [(1, .live (bdAt 1 2)), (2, .live (.row 5 1 n (bs xs))), (13, .un), (14, .un)]
  [(1, .live (bdAt 1 14)), (2, .dead), (13, .dead), (14, .live (.row 5 1 (n + 1) (bs (xs ++ [c]))))] (.p (.v .nilIface)) := by
 refine fnIO fun w0 A heap => ?_
 have hck := check_used (.row 2)
 unfold bdAt
 refine G [7] ?_
 refine zbe (hck) rfl rfl func159 rfl rfl (by repeat (first | exact trivial | refine ⟨rfl, ?_⟩)) rfl ?_
 refine G [9] ?_
 refine jcR ?_
 refine zab (zal 14 U62 eo5 (zax) (by simp only [maxLen]; omega) (by omega) (show _ = n + 1 by omega) rfl) rfl rfl ⟨rfl, rfl, rfl, trivial⟩ ?_
 refine G [8] ?_
 refine za2 (zbM 13) ?_
 rw [← zcr]
 refine zaE (⟨(by first | exact .inl rfl | exact .inr rfl), ⟨_, (.tmp _ _ _ _ rfl .nil), ?_⟩, ?_, ?_⟩)
 ·exact rfl
 ·exact jbm
 ·exact jao
theorem string_new : FnO prog 128 [.ref 1 0] [(1, .live zhw)] [(1, .live zhw)] (.p (.v (.string ⟨#[]⟩))) := by
 refine fnIO fun w0 A heap => ?_
 unfold zhw
 refine G [5] ?_
 refine zbA 6 (by kernel_rfl) ?_
 refine G [4] ?_
 refine jdz a_sdNil ?_
 refine G [4] ?_
 refine jdz (zfy U62) ?_
 refine jdz a_usNil ?_
 refine G [3] ?_
 exact jax
theorem string_used (n : Nat) (xs : List Int) (hn : 0 < n) (hB : isB xs) : FnO prog 128 [.ref 1 0] [(1, .live (bdAt 1 2)), (2, .live (.row 5 1 n (bs xs)))] [(1, .live (bdAt 1 2)), (2, .dead)] (.p (.v (.string (strOfNums xs)))) := by
 refine fnIO fun w0 A heap => ?_
 unfold bdAt
 refine G [5] ?_
 refine zbA 6 (by kernel_rfl) ?_
 refine G [4] ?_
 refine zab (a_sdRow (by omega)) rfl rfl ⟨rfl, trivial⟩ ?_
 refine G [5] ?_
 refine zab (a_usRow underlying220 (by kernel_rfl) (by omega) (by assumption)) rfl rfl ⟨rfl, trivial⟩ ?_
 refine G [3] ?_
 exact jax
end Go.Proofs.YtbjdjclkbjpebaaGreatDoor
