/- sha.Sum, over data. The reference's compressed, over data. The reference's ShaSum, over data. The law ShaSums, over data. -/
import Derived.Test.YtbjdjclkbjpebaaGreatDoorSSha
import Derived.Test.YtbjdjclkbjpebaaGreatDoorSEq3
namespace Go.Proofs.YtbjdjclkbjpebaaGreatDoor
open Tryz
open Go.RowKit Go.Sort
set_option maxHeartbeats 16000000
set_option linter.unusedVariables false
set_option linter.unusedSimpArgs false
set_option maxRecDepth 100000
theorem vl_cons {K : Nat → Bool} {h : Nat → Slot} {x y : AV} {xs zs : List AV} (h1 : x.view K h = y) (h2 : AV.viewL K h xs = zs) : AV.viewL K h (x :: xs) = y :: zs := by rw [AV.viewL, h1, h2]
theorem vl_psl {h : Nat → Slot} {o off n size n' size' : Nat} {e : TypeId} {cs ys : List PV} {xs zs : List AV} (ho : h o = .live (.row e size' n' cs)) (hl : off + n * size ≤ cs.length) (hy : (cs.drop off).take (n * size) = ys) (h2 : AV.viewL (fun _ => false) h xs = zs) :
  AV.viewL (fun _ => false) h (.psl o off n size :: xs) = .p (.sl n size ys) :: zs := by
 have : zcl (h o) off n size = .p (.sl n size ys) := by rw [ho]; simp only [zcl, hl, if_true, hy]
 rw [AV.viewL, h2, AV.view, cond_false, this]
theorem iuA_view (K : Nat → Bool) (h : Nat → Slot) (xs : List Int) : (AV.agg (iu xs)).view K h = .agg (iu xs) := by rw [AV.view, zin]
theorem bs_cut {xs : List Int} {a b : Nat} : ((bs xs).drop a).take b = bs ((xs.drop a).take b) := by simp [bs, List.map_drop, List.map_take]
def H0 : V8 := ⟨1779033703, 3144134277, 1013904242, 2773480762, 1359893119, 2600822924, 528734635, 1541459225⟩
def sumH (P : List Int) : Nat → V8
 | 0 => H0
 | k + 1 => blk8 (sumH P k) ((P.drop (64 * k)).take 64)
def w4 (x : Int) : List Int := [IntKind.u8.wrap (sr x 24), IntKind.u8.wrap (sr x 16), IntKind.u8.wrap (sr x 8), IntKind.u8.wrap x]
def shaV (xs : List Int) : V8 := sumH (zb1 xs) (zbo xs.length / 64)
def shaD (xs : List Int) : List Int := (shaV xs).l.flatMap w4
def outK (v : V8) (k : Nat) : List Int := (v.l.take k).flatMap w4
theorem outK_next (v : V8) (k : Nat) (hk : k < 8) : outK v k ++ w4 (v.l.getD k 0) = outK v (k + 1) := by
 have hl : k < v.l.length := hk
 rw [outK, outK, List.take_succ_eq_append_getElem hl, List.flatMap_append, List.getD_eq_getElem?_getD, List.getElem?_eq_getElem hl]
 simp
theorem w4_B (x : Int) : isB (w4 x) := by
 intro y hy
 simp only [w4, List.mem_cons, List.not_mem_nil, or_false] at hy
 have h : ∀ z, 0 ≤ IntKind.u8.wrap z ∧ IntKind.u8.wrap z < 256 := fun z => by rw [IntKind.wrap_u8]; omega
 rcases hy with rfl | rfl | rfl | rfl <;> exact h _
theorem zhB (xs : List Int) : isB (shaD xs) := by
 intro y hy
 obtain ⟨x, _, h⟩ := List.mem_flatMap.1 hy
 exact w4_B x y h
theorem zfh (xs : List Int) : (shaD xs).length = 32 := rfl
theorem sum_s (n : Nat) (xs : List Int) (hn : xs.length = n) (hb : isB xs) : Fn prog 102 [.p (.sl n 1 (bs xs))] (bRes (padE n)) (bNew (padE n) 32 (shaD xs)) := by
 have hP := pad_s n xs hn
 have hpl := zhA xs
 have hpb := shaPad_B hb
 have hv : shaV xs = sumH (zb1 xs) (zbo n / 64) := by unfold shaV; rw [hn]
 have hd : shaD xs = outK (shaV xs) 8 := rfl
 rw [hn] at hpl
 refine fnI fun w0 A => ?_
 by_cases hbig : 1000 < n
 ·exact jaW
 have he : padE n = 0 := by unfold padE; rw [if_neg hbig]
 obtain ⟨e1, e2⟩ := zaW he 32 (shaD xs)
 obtain ⟨e3, e4⟩ := zaW he (zbo n) (zb1 xs)
 rw [e3, e4] at hP
 rw [e1, e2]
 have hpd : 64 * (zbo n / 64) = zbo n := by have := padLen_64 n; omega
 have hpm : zbo n ≤ 2000 := by have := zid n; unfold zbo; omega
 clear e1 e2 e3 e4
 generalize zb1 xs = Pd at hP hpl hpb hv
 rw [hd, hv]
 clear hd hv
 generalize zbo n = pn at hP hpl hpd hpm ⊢
 obtain ⟨nb, hnb⟩ : ∃ nb, pn / 64 = nb := ⟨_, rfl⟩
 rw [hnb] at hpd ⊢
 refine G [8] ?_
 refine cV hP ?_
 refine G [12, 9, 0] ?_
 refine cX (fun h => ?_) fun h => ?_
 ·cases h
 clear h
 refine G [3] ?_
 refine zaa (xs := (iu H0.l)) (zcV (es := (iu H0.l)) U206 zr206 rfl sz86 (by kernel_rfl)) (by first | rfl | kernel_rfl) rfl ?_
 refine G [9] ?_
 refine zag (fun m st => ∃ k : Nat, m + k = nb ∧ st = St.of [(4, .row 4), (6, .ref 6 0), (7, .p (.v (.int .i64 (64 * k))))] [(4, .row 5 1 pn (bs Pd)), (6, .box 206 (iu (sumH Pd k).l))]) nb ?_ ?_
 ·refine ⟨_, zah (fun o => bif Nat.beq o 4 then 13 else o) _ _ ?_ ?_ rfl, 0, by omega, rfl⟩
  ·exact jak
  ·exact ⟨⟨rfl, rfl⟩, ⟨zbl rfl, zcy _ _⟩, trivial⟩
 rintro m st ⟨k, hk, rfl⟩
 refine jcM ?_
 refine cX (fun h => ?_) fun h => ?_
 ·have hlt : k < nb := by simp at h; omega
  clear h
  have hnx : sumH Pd (k + 1) = blk8 (sumH Pd k) ((Pd.drop (64 * k)).take 64) := rfl
  have hcl : ((Pd.drop (64 * k)).take 64).length = 64 := by rw [List.length_take, List.length_drop]; omega
  have hcb : isB ((Pd.drop (64 * k)).take 64) := fun y hy => hpb y (List.mem_of_mem_drop (List.mem_of_mem_take hy))
  have hcut := bs_cut (xs := Pd) (a := 64 * k) (b := 64 * 1)
  generalize (Pd.drop (64 * k)).take 64 = Bl at hnx hcl hcb hcut
  generalize sumH Pd k = v at hnx ⊢
  refine G [9] ?_
  refine zab (zeC (L := (some (_, _))) (H := (some (_, _))) U62 sz5 ⟨by omega, (show _ = 64 * k by omega)⟩ ⟨by omega, (show _ = 64 * k + 64 by omega)⟩ (by omega) (by omega) (show _ = 64 by omega) (show _ = 64 * k by omega)) rfl rfl ⟨rfl, trivial⟩ ?_
  refine zaR (fun n => 32 + 1000 * n) (block_s v Bl hcl hcb) rfl (vl_cons (iuA_view _ _ _) (vl_psl rfl (by rw [bs_length]; omega) hcut rfl)) func142 rfl rfl (by first | rfl | simp [AV.noSl, AV.noSlL, AObj.noSl, PV.isV, zaH]) (by first | rfl | simp [AV.noSl, AV.noSlL, AObj.noSl, PV.isV, zaH]) rfl rfl rfl (by first | exact trivial | exact ⟨rfl, trivial⟩ | exact ⟨rfl, rfl, trivial⟩ | exact ⟨rfl, rfl, rfl, rfl, rfl, trivial⟩) rfl rfl rfl ?_
  refine jcq ?_
  refine jcG ?_ ?_
  ·refine jdy ?_
   show AV.p (.v (.int .i64 (64 * (k : Int) + 64))) = AV.p (.v (.int .i64 (64 * ((k + 1 : Nat) : Int))))
   congr 3 <;> omega
  ·rw [hnx]
   exact ⟨⟨rfl, rfl⟩, ⟨zbl rfl, zcy _ _⟩, trivial⟩
 have hge : k = nb := by simp at h; omega
 clear h
 subst hge
 generalize sumH Pd k = v
 refine G [3] ?_
 refine zab (zhn 33 U62 eo5 (by omega) (by omega) (by simp only [maxLen]; omega)) rfl rfl ⟨rfl, trivial⟩ ?_
 refine G [9] ?_
 refine zag (fun m st => ∃ k : Nat, m + k = 8 ∧ st = St.of [(8, .row 8), (34, .agg (iu v.l)), (35, .p (.v (.int .i64 k)))] [(8, .row 5 1 (4 * k) (bs (outK v k)))]) 8 ?_ ?_
 ·refine ⟨_, zah (fun _ => 33) _ _ ?_ ?_ rfl, 0, by omega, rfl⟩
  ·exact jak
  ·exact ⟨⟨rfl, rfl⟩, trivial⟩
 rintro m st ⟨k, hk, rfl⟩
 refine G [5] ?_
 refine cX (fun h => ?_) fun h => ?_
 ·have hlt : k < 8 := by simp at h; omega
  clear h
  have g1 := zio (xs := v.l) (i := k) hlt
  have g2 := outK_next v k hlt
  generalize v.l.getD k 0 = x at g1 g2
  refine G [5] ?_
  refine zaa (zcE U206 sz86 U86 rfl (by omega) (by omega) (by first | rfl | assumption | ((try simp only [Int.toNat_natCast, Nat.mul_one, Nat.add_zero, Nat.zero_add]); first | assumption | rfl))) rfl rfl ?_
  refine G [5] ?_
  refine jcK ?_
  refine G [2] ?_
  refine jcK ?_
  refine G [2] ?_
  refine jcK ?_
  refine G [3] ?_
  refine zab (xs := ((bs (w4 x)).map AV.p)) (zae (es := ((bs (w4 x)).map AV.p)) (cs := (bs (w4 x))) 50 U62 sz5 zc5 (Nat.le_of_ble_eq_true rfl) (Nat.le_of_ble_eq_true rfl) rfl (by kernel_rfl) (by kernel_rfl) (by kernel_rfl) (Nat.le_of_ble_eq_true rfl)) (by first | rfl | kernel_rfl) rfl ⟨rfl, trivial⟩ ?_
  refine zab (zal 51 U62 eo5 (zax) (by simp only [maxLen]; omega) (by omega) (show _ = 4 * (k + 1) by omega) rfl) rfl rfl ⟨rfl, rfl, rfl, trivial⟩ ?_
  refine jcs ?_
  refine ⟨m - 1, by omega, _, zah (fun _ => 51) _ _ ?_ ?_ rfl, k + 1, by omega, rfl⟩
  ·exact jak
  ·rw [← g2, bs_append]
   exact ⟨⟨rfl, rfl⟩, trivial⟩
 have hge : k = 8 := by simp at h; omega
 clear h
 subst hge
 refine jcM ?_
 refine yT (fun _ => 8) ?_ ?_
 ·exact rfl
 ·exact ⟨⟨rfl, rfl⟩, trivial⟩
theorem zhL (x : BitVec 32) : BitVec.ofInt 32 (IntKind.u32.wrap (x.toNat : Int)) = x := by
 rw [IntWalk.u32_in _ (by have := x.isLt; omega), BitVec.ofInt_natCast, BitVec.ofNat_toNat, BitVec.setWidth_eq]
theorem bx (a b : Int) : bits .xor .u32 a b = IntKind.u32.wrap ((BitVec.ofInt 32 a ^^^ BitVec.ofInt 32 b).toNat : Int) := rfl
theorem ba (a b : Int) : bits .and .u32 a b = IntKind.u32.wrap ((BitVec.ofInt 32 a &&& BitVec.ofInt 32 b).toNat : Int) := rfl
theorem bo (a b : Int) : bits .or .u32 a b = IntKind.u32.wrap ((BitVec.ofInt 32 a ||| BitVec.ofInt 32 b).toNat : Int) := rfl
theorem chR (e f g : Int) : bits .xor .u32 g (bits .and .u32 e (bits .xor .u32 f g)) = ch e f g := by
 have hm : BitVec.ofInt 32 (if IntKind.u32.signed then -1 else IntKind.u32.max) = BitVec.allOnes 32 := by decide
 unfold ch xr an nt
 simp only [bx, ba, zhL, hm]
 congr 2
 apply congrArg
 apply BitVec.eq_of_getLsbD_eq
 intro i hi
 simp only [BitVec.getLsbD_xor, BitVec.getLsbD_and, BitVec.getLsbD_allOnes, hi, decide_true]
 cases (BitVec.ofInt 32 e).getLsbD i <;> cases (BitVec.ofInt 32 f).getLsbD i <;> cases (BitVec.ofInt 32 g).getLsbD i <;> rfl
theorem mjR (a b c : Int) : bits .or .u32 (bits .and .u32 a b) (bits .and .u32 c (bits .or .u32 a b)) = mj a b c := by
 unfold mj xr an
 simp only [bx, ba, bo, zhL]
 congr 2
 apply congrArg
 apply BitVec.eq_of_getLsbD_eq
 intro i hi
 simp only [BitVec.getLsbD_xor, BitVec.getLsbD_and, BitVec.getLsbD_or]
 cases (BitVec.ofInt 32 a).getLsbD i <;> cases (BitVec.ofInt 32 b).getLsbD i <;> cases (BitVec.ofInt 32 c).getLsbD i <;> rfl
theorem zeo (a b : Int) : ad a b = ad b a := by unfold ad; rw [Int.add_comm]
theorem zeS {xs : List Int} {i : Nat} (h : i < xs.length) : (pu xs)[i]? = some (.v (.int .u32 (xs.getD i 0))) :=
 pu_at (by rw [List.getD_eq_getElem?_getD, List.getElem?_eq_getElem h]; rfl)
theorem re_rowpsl {st : St} (t : Nat) {o n size : Nat} {e : TypeId} {cs : List PV} (ht : st.tmps t = .row o) (ho : st.heap o = .live (.row e size n cs)) : Re st (st.put (some t) (.psl o 0 n size)) := by
 rintro w0 A nt a w ⟨⟨S, m, hm, hj, hr⟩, hsz, hd⟩
 refine ⟨⟨S, m, by rw [zdS]; exact hm, hj, fun t' => ?_⟩, hsz, hd⟩
 by_cases e1 : t' = t
 ·subst e1
  have h1 := hr t'
  rw [ht] at h1
  simp only [Rep] at h1
  obtain ⟨v, h2, h3, h4⟩ := hm.live o _ ho
  rw [h1.1] at h2
  cases h2
  simp only [St.put, Nat.beq_refl, cond_true, Rep]
  obtain ⟨us, _, _, h5⟩ := h3
  rcases h5 with ⟨h6, h7⟩ | ⟨g, cap, cur, fz, h6, _, _, _, h7, _⟩
  ·subst h7
   exact ⟨none, 0, h6, Nat.le_refl _, .inl rfl⟩
  ·exact ⟨some ⟨g, 0, none⟩, cap, h6, h7, .inr ⟨g, _, h1.1, by rw [h6]; rfl, rfl⟩⟩
 ·have hb : Nat.beq t' t = false := nbeq e1
  simp only [St.put, hb, cond_false]
  exact hr t'
theorem compr_s (v0 : V8) (xs : List Int) : Fn prog 154 [.p (.sl 8 1 (pu v0.l)), .p (.sl 16 1 (pu (wp xs 64))), .p (.sl 64 1 (pu RK))] (.row 0) [(0, .row 86 1 8 (pu (blk8 v0 xs).l))] := by
 have hW := wp_len xs 64
 unfold blk8 wds
 generalize wp xs 64 = W at hW ⊢
 refine fnI fun w0 A => ?_
 refine G [6] ?_
 refine jdA (za0 22 U213 sz86) ?_
 refine jco ?_
 refine zab (zal 24 U213 eo86 (zbn) (by simp only [maxLen]; omega) (by omega) rfl rfl) rfl rfl ⟨rfl, rfl, trivial⟩ ?_
 refine G [4] ?_
 refine zag (fun m st => ∃ k : Nat, m + k = 48 ∧ st = St.of [(0, .p (.sl 8 1 (pu v0.l))), (2, .p (.sl 64 1 (pu RK))), (7, .row 7)] [(7, .row 86 1 (16 + k) (pu (ext W k)))]) 48 ?_ ?_
 ·refine ⟨_, zah (fun _ => 24) _ _ ?_ ?_ rfl, 0, by omega, rfl⟩
  ·exact jak
  ·exact ⟨⟨rfl, rfl⟩, trivial⟩
 rintro m st ⟨k, hk, rfl⟩
 refine jcq ?_
 refine cX (fun h => ?_) fun h => ?_
 ·have hlt : k < 48 := by simp at h; omega
  clear h
  have hel := zei hW k
  have g15 := zeS (xs := ext W k) (i := 16 + k - 15) (by omega)
  have g16 := zeS (xs := ext W k) (i := 16 + k - 16) (by omega)
  have g7 := zeS (xs := ext W k) (i := 16 + k - 7) (by omega)
  have g2 := zeS (xs := ext W k) (i := 16 + k - 2) (by omega)
  have hnx : pu (ext W (k + 1)) = pu (ext W k) ++ [.v (.int .u32 (nx (ext W k) (16 + k)))] := by rw [pu_push]; rfl
  refine G [13] ?_
  refine jdu ?_
  refine jdA (zaO U86 rfl g15) ?_
  refine cV (zb4 _ _) ?_
  refine G [3] ?_
  refine jdu ?_
  refine jdA (zaO U86 rfl g15) ?_
  refine cV (zb4 _ _) ?_
  refine jcx ?_
  refine G [3] ?_
  refine jdu ?_
  refine jdA (zaO U86 rfl g15) ?_
  refine jcK ?_
  refine zaa (zaU (by simp) (show _ = s0 _ from rfl)) rfl rfl ?_
  refine G [7] ?_
  refine jdv ?_
  refine jdA (zaO U86 rfl g2) ?_
  refine cV (zb4 _ _) ?_
  refine G [3] ?_
  refine jdv ?_
  refine jdA (zaO U86 rfl g2) ?_
  refine cV (zb4 _ _) ?_
  refine jcx ?_
  refine G [3] ?_
  refine jdv ?_
  refine jdA (zaO U86 rfl g2) ?_
  refine jcK ?_
  refine zaa (zaU (by simp) (show _ = s1 _ from rfl)) rfl rfl ?_
  refine G [2, 9, 0] ?_
  refine zbA 7 (by kernel_rfl) ?_
  refine G [4] ?_
  refine zab (zan U213 sz86 (by omega) (by omega) (show _ = 16 + k - 16 by omega)) rfl rfl ⟨rfl, trivial⟩ ?_
  refine jdA (zaO U86 rfl g16) ?_
  refine G [5] ?_
  refine zab (zan U213 sz86 (by omega) (by omega) (show _ = 16 + k - 7 by omega)) rfl rfl ⟨rfl, trivial⟩ ?_
  refine jdA (zaO U86 rfl g7) ?_
  refine G [2] ?_
  refine jdz (za3 (show _ = nx (ext W k) (16 + k) from rfl)) ?_
  refine zab (xs := [.p (.v (.int .u32 (nx (ext W k) (16 + k))))]) (zae (es := [.p (.v (.int .u32 (nx (ext W k) (16 + k))))]) (cs := [.v (.int .u32 (nx (ext W k) (16 + k)))]) 86 U213 sz86 zc86 (Nat.le_of_ble_eq_true rfl) (Nat.le_of_ble_eq_true rfl) rfl (by kernel_rfl) (by kernel_rfl) (by kernel_rfl) (Nat.le_of_ble_eq_true rfl)) (by first | rfl | kernel_rfl) rfl ⟨rfl, trivial⟩ ?_
  refine zab (zal 87 U213 eo86 (zax) (by simp only [maxLen]; omega) (by omega) rfl rfl) rfl rfl ⟨rfl, rfl, rfl, trivial⟩ ?_
  refine G [2, 9, 0] ?_
  refine ⟨m - 1, by omega, _, zah (fun _ => 87) _ _ ?_ ?_ rfl, k + 1, by omega, rfl⟩
  ·exact jak
  ·rw [hnx]
   exact ⟨⟨rfl, rfl⟩, trivial⟩
 have hge : k = 48 := by simp at h; omega
 clear h
 subst hge
 have hWl := zei hW 48
 generalize ext W 48 = W2 at hWl ⊢
 refine G [5] ?_
 refine zaa (zaG U86 rfl (by first | rfl | assumption)) rfl rfl ?_
 refine G [2] ?_
 refine zaa (zaG U86 rfl (by first | rfl | assumption)) rfl rfl ?_
 refine G [2] ?_
 refine zaa (zaG U86 rfl (by first | rfl | assumption)) rfl rfl ?_
 refine G [2] ?_
 refine zaa (zaG U86 rfl (by first | rfl | assumption)) rfl rfl ?_
 refine G [2] ?_
 refine zaa (zaG U86 rfl (by first | rfl | assumption)) rfl rfl ?_
 refine G [2] ?_
 refine zaa (zaG U86 rfl (by first | rfl | assumption)) rfl rfl ?_
 refine G [2] ?_
 refine zaa (zaG U86 rfl (by first | rfl | assumption)) rfl rfl ?_
 refine G [2] ?_
 refine zaa (zaG U86 rfl (by first | rfl | assumption)) rfl rfl ?_
 refine G [15] ?_
 refine zag (fun m st => ∃ k : Nat, m + k = 64 ∧ st = St.of [(0, .p (.sl 8 1 (pu v0.l))), (2, .p (.sl 64 1 (pu RK))), (7, .row 7), (11, .p (.v (.int .u32 (rn RK W2 v0 k).a))), (12, .p (.v (.int .u32 (rn RK W2 v0 k).b))), (13, .p (.v (.int .u32 (rn RK W2 v0 k).c))), (14, .p (.v (.int .u32 (rn RK W2 v0 k).d))), (15, .p (.v (.int .u32 (rn RK W2 v0 k).e))), (16, .p (.v (.int .u32 (rn RK W2 v0 k).f))), (17, .p (.v (.int .u32 (rn RK W2 v0 k).g))), (18, .p (.v (.int .u32 (rn RK W2 v0 k).h))), (19, .p (.v (.int .i64 k)))] [(7, .row 86 1 64 (pu W2))]) 64 ?_ ?_
 ·exact jaO
 rintro m st ⟨k, hk, rfl⟩
 refine jcs ?_
 refine cX (fun h => ?_) fun h => ?_
 ·have hlt : k < 64 := by simp at h; omega
  clear h
  have gk := zeS (xs := RK) (i := k) hlt
  have gw := zeS (xs := W2) (i := k) (by omega)
  have hs : rn RK W2 v0 (k + 1) = rnd (RK.getD k 0) (W2.getD k 0) (rn RK W2 v0 k) := rfl
  generalize rn RK W2 v0 k = v at hs ⊢
  generalize RK.getD k 0 = ck at gk hs
  generalize W2.getD k 0 = wk at gw hs
  (repeat (first | refine zad ?_ | refine zao ?_ | refine zap ?_ | refine zaE ?_ | refine zaN ?_ | refine zaz ?_ | refine zbG ?_ | refine zct ?_ | refine zbz ?_ | refine zcz ?_ | refine zcR ?_ | refine zdX rfl ?_))
  refine G [3] ?_
  refine cV (zb4 _ _) ?_
  refine jco ?_
  refine cV (zb4 _ _) ?_
  refine jcx ?_
  refine jco ?_
  refine cV (zb4 _ _) ?_
  refine jcx ?_
  refine G [5] ?_
  refine jcx ?_
  refine jcx ?_
  refine zaa (zaU (by simp) (chR _ _ _)) rfl rfl ?_
  refine G [3] ?_
  refine zaa (zaM U213 sz86 (by omega) (by omega) (by rw [Int.toNat_natCast, Nat.mul_one])) rfl rfl ?_
  refine zaa (zaG U86 rfl (by rw [List.getElem?_drop]; exact gk)) rfl rfl ?_
  refine G [3] ?_
  refine zab (zan U213 sz86 (by omega) (by omega) (show _ = k by omega)) rfl rfl ⟨rfl, trivial⟩ ?_
  refine jdA (zaO U86 rfl gw) ?_
  refine jdz (za3 (show _ = shOne ck wk v from rfl)) ?_
  refine G [2] ?_
  (repeat (first | refine zad ?_ | refine zao ?_ | refine zap ?_ | refine zaE ?_ | refine zaN ?_ | refine zaz ?_ | refine zbG ?_ | refine zct ?_ | refine zbz ?_ | refine zcz ?_ | refine zcR ?_ | refine zdX rfl ?_))
  refine G [2] ?_
  refine cV (zb4 _ _) ?_
  refine jco ?_
  refine cV (zb4 _ _) ?_
  refine jcx ?_
  refine jco ?_
  refine cV (zb4 _ _) ?_
  refine jcx ?_
  refine G [2] ?_
  refine jcx ?_
  refine G [3] ?_
  refine jcx ?_
  refine jcx ?_
  refine zaa (zaU (by simp) (mjR _ _ _)) rfl rfl ?_
  refine jdz (za3 (show _ = two v from rfl)) ?_
  refine G [2] ?_
  (repeat (first | refine zad ?_ | refine zao ?_ | refine zap ?_ | refine zaE ?_ | refine zaN ?_ | refine zaz ?_ | refine zbG ?_ | refine zct ?_ | refine zbz ?_ | refine zcz ?_ | refine zcR ?_ | refine zdX rfl ?_))
  refine G [3] ?_
  refine jdz (za3 (show _ = ad (shOne ck wk v) (two v) from rfl)) ?_
  refine G [5] ?_
  refine jdz (za3 (show _ = ad v.d (shOne ck wk v) from rfl)) ?_
  refine G [12] ?_
  (repeat (first | refine zad ?_ | refine zao ?_ | refine zap ?_ | refine zaE ?_ | refine zaN ?_ | refine zaz ?_ | refine zbG ?_ | refine zct ?_ | refine zbz ?_ | refine zcz ?_ | refine zcR ?_ | refine zdX rfl ?_))
  refine jct ?_
  refine jcG ?_ ?_
  ·rw [hs]
   exact jak
  ·exact ⟨⟨rfl, rfl⟩, trivial⟩
 have hge : k = 64 := by simp at h; omega
 clear h
 subst hge
 generalize rn RK W2 v0 64 = v
 refine G [5] ?_
 refine zaa (zaG U86 rfl (by first | rfl | assumption)) rfl rfl ?_
 refine jco ?_
 refine jdz (za3 (zeo _ _)) ?_
 refine G [2] ?_
 refine zaa (zaG U86 rfl (by first | rfl | assumption)) rfl rfl ?_
 refine jco ?_
 refine jdz (za3 (zeo _ _)) ?_
 refine G [2] ?_
 refine zaa (zaG U86 rfl (by first | rfl | assumption)) rfl rfl ?_
 refine jco ?_
 refine jdz (za3 (zeo _ _)) ?_
 refine G [2] ?_
 refine zaa (zaG U86 rfl (by first | rfl | assumption)) rfl rfl ?_
 refine jco ?_
 refine jdz (za3 (zeo _ _)) ?_
 refine G [2] ?_
 refine zaa (zaG U86 rfl (by first | rfl | assumption)) rfl rfl ?_
 refine jco ?_
 refine jdz (za3 (zeo _ _)) ?_
 refine G [2] ?_
 refine zaa (zaG U86 rfl (by first | rfl | assumption)) rfl rfl ?_
 refine jco ?_
 refine jdz (za3 (zeo _ _)) ?_
 refine G [2] ?_
 refine zaa (zaG U86 rfl (by first | rfl | assumption)) rfl rfl ?_
 refine jco ?_
 refine jdz (za3 (zeo _ _)) ?_
 refine G [2] ?_
 refine zaa (zaG U86 rfl (by first | rfl | assumption)) rfl rfl ?_
 refine jco ?_
 refine jdz (za3 (zeo _ _)) ?_
 refine zab (xs := (iu (v.plus v0).l)) (zae (es := (iu (v.plus v0).l)) (cs := (pu (v.plus v0).l)) 214 U213 sz86 zc86 (Nat.le_of_ble_eq_true rfl) (Nat.le_of_ble_eq_true rfl) rfl (by kernel_rfl) (by kernel_rfl) (by kernel_rfl) (Nat.le_of_ble_eq_true rfl)) (by first | rfl | kernel_rfl) rfl ⟨rfl, trivial⟩ ?_
 refine jcJ ?_
 refine yT (fun _ => 214) ?_ ?_
 ·exact rfl
 ·exact ⟨⟨rfl, rfl⟩, trivial⟩
def isU (x : Int) : Prop := 0 ≤ x ∧ x < 4294967296
theorem ad_U (a b : Int) : isU (ad a b) := by unfold ad isU; rw [IntKind.wrap_u32]; omega
theorem plus_U (v h : V8) : ∀ x ∈ (v.plus h).l, isU x := by
 intro x hx
 simp only [V8.l, V8.plus, List.mem_cons, List.not_mem_nil, or_false] at hx
 rcases hx with rfl | rfl | rfl | rfl | rfl | rfl | rfl | rfl <;> exact ad_U _ _
theorem sumH_U (P : List Int) : ∀ k, ∀ x ∈ (sumH P k).l, isU x
 | 0 => by
  intro x hx
  simp only [sumH, V8.l, H0, List.mem_cons, List.not_mem_nil, or_false] at hx
  rcases hx with rfl | rfl | rfl | rfl | rfl | rfl | rfl | rfl <;> (unfold isU; omega)
 | k + 1 => plus_U _ _
theorem w4_eq {x : Int} (h : isU x) : w4 x = [x / 16777216 % 256, x / 65536 % 256, x / 256 % 256, x / 1 % 256] := by
 have e : ∀ k, sr x k = x / 2 ^ k := fun k => Int.fdiv_eq_ediv_of_nonneg _ (by exact Int.le_of_lt (Int.pow_pos (by omega)))
 simp only [w4, e, IntKind.wrap_u8]
 rw [show (2 : Int) ^ 24 = 16777216 from rfl, show (2 : Int) ^ 16 = 65536 from rfl, show (2 : Int) ^ 8 = 256 from rfl, Int.ediv_one]
theorem zgc (n : Nat) (xs : List Int) (hn : xs.length = n) (hb : isB xs) : Fn prog 117 [.p (.sl n 1 (bs xs))] (bRes (padE n)) (bNew (padE n) 32 (shaD xs)) := by
 have hP := refPad_s n xs hn
 have hpl := zhA xs
 have hpb := shaPad_B hb
 have hv : shaV xs = sumH (zb1 xs) (zbo n / 64) := by unfold shaV; rw [hn]
 have hd : shaD xs = outK (shaV xs) 8 := rfl
 rw [hn] at hpl
 refine fnI fun w0 A => ?_
 by_cases hbig : 1000 < n
 ·exact jaW
 have he : padE n = 0 := by unfold padE; rw [if_neg hbig]
 obtain ⟨e1, e2⟩ := zaW he 32 (shaD xs)
 obtain ⟨e3, e4⟩ := zaW he (zbo n) (zb1 xs)
 rw [e3, e4] at hP
 rw [e1, e2]
 have hpd : 64 * (zbo n / 64) = zbo n := by have := padLen_64 n; omega
 have hpm : zbo n ≤ 2000 := by have := zid n; unfold zbo; omega
 clear e1 e2 e3 e4
 generalize zb1 xs = Pd at hP hpl hpb hv
 rw [hd, hv]
 clear hd hv
 generalize zbo n = pn at hP hpl hpd hpm ⊢
 obtain ⟨nb, hnb⟩ : ∃ nb, pn / 64 = nb := ⟨_, rfl⟩
 rw [hnb] at hpd ⊢
 refine G [8] ?_
 refine cV hP ?_
 refine G [12, 9, 0] ?_
 refine cX (fun h => ?_) fun h => ?_
 ·cases h
 clear h
 refine G [3] ?_
 refine zab (xs := (iu H0.l)) (zae (es := (iu H0.l)) (cs := (pu H0.l)) 23 U213 sz86 zc86 (Nat.le_of_ble_eq_true rfl) (Nat.le_of_ble_eq_true rfl) rfl (by kernel_rfl) (by kernel_rfl) (by kernel_rfl) (Nat.le_of_ble_eq_true rfl)) (by first | rfl | kernel_rfl) rfl ⟨rfl, trivial⟩ ?_
 refine G [4] ?_
 refine zaR (fun n => 24 + 1000 * n) (refRounds_s) rfl rfl func153 rfl rfl (by kernel_rfl) (by kernel_rfl) rfl rfl rfl (by first | exact trivial | exact ⟨rfl, trivial⟩ | exact ⟨rfl, rfl, trivial⟩ | exact ⟨rfl, rfl, rfl, rfl, rfl, trivial⟩) rfl rfl rfl ?_
 refine G [4] ?_
 refine za8 (re_rowpsl 4 (o := 17) rfl rfl) ?_
 refine zag (fun m st => ∃ k : Nat, m + k = nb ∧ st = St.of [(4, .psl 4 (64 * k) (pn - 64 * k) 1), (6, .row 6), (7, .row 7)] [(4, .row 5 1 pn (bs Pd)), (6, .row 86 1 8 (pu (sumH Pd k).l)), (7, .row 86 1 64 (pu RK))]) nb ?_ ?_
 ·refine ⟨_, zah (fun o => bif Nat.beq o 4 then 17 else bif Nat.beq o 6 then 23 else 24) _ _ ?_ ?_ rfl, 0, by omega, rfl⟩
  ·exact jak
  ·exact jaC
 rintro m st ⟨k, hk, rfl⟩
 refine jcq ?_
 refine cX (fun h => ?_) fun h => ?_
 ·have hlt : k < nb := by simp at h; omega
  clear h
  have hnx : sumH Pd (k + 1) = blk8 (sumH Pd k) ((Pd.drop (64 * k)).take 64) := rfl
  have hcl : ((Pd.drop (64 * k)).take 64).length = 64 := by rw [List.length_take, List.length_drop]; omega
  have hcb : isB ((Pd.drop (64 * k)).take 64) := fun y hy => hpb y (List.mem_of_mem_drop (List.mem_of_mem_take hy))
  have hce : ∀ i, i < 64 → ((Pd.drop (64 * k)).take 64)[i]? = Pd[64 * k + i]? := fun i hi => by rw [List.getElem?_take, if_pos hi, List.getElem?_drop]
  generalize (Pd.drop (64 * k)).take 64 = Bl at hnx hcl hcb hce
  generalize sumH Pd k = v at hnx ⊢
  refine G [4] ?_
  refine zab (zhm 28 U213 eo86 zr86 rfl (by omega) (by omega) (by omega) (by simp only [maxLen]; omega) rfl) rfl rfl ⟨rfl, trivial⟩ ?_
  refine G [8] ?_
  refine zag (fun m2 st => ∃ i : Nat, m2 + i = 64 ∧ st = St.of [(4, .psl 4 (64 * k) (pn - 64 * k) 1), (6, .row 6), (7, .row 7), (8, .row 8), (9, .p (.v (.int .i64 i)))] [(4, .row 5 1 pn (bs Pd)), (6, .row 86 1 8 (pu v.l)), (7, .row 86 1 64 (pu RK)), (8, .row 86 1 16 (pu (wp Bl i)))]) 64 ?_ ?_
  ·refine ⟨_, zah (fun o => bif Nat.beq o 8 then 28 else o) _ _ ?_ ?_ rfl, 0, by omega, rfl⟩
   ·exact jak
   ·rw [wp_zero]
    exact jaU
  rintro m2 st ⟨i, hi, rfl⟩
  refine jcs ?_
  refine cX (fun h => ?_) fun h => ?_
  ·have hi2 : i < 64 := by simp at h; omega
   clear h
   obtain ⟨x, hx⟩ : ∃ x, Bl[i]? = some x := ⟨Bl[i]'(by omega), List.getElem?_eq_getElem (by omega)⟩
   have hxb := hcb x (List.mem_of_getElem? hx)
   have g1 := ziz ((hce i hi2).symm.trans hx)
   have hwb := wd_bd (i := i) hcb
   have hlen := wp_len Bl i
   have g2 := pu_at (wp_at (xs := Bl) hi2)
   have g4 : setR (pu (wp Bl i)) (i / 4) [.v (.int .u32 (wd Bl i (i / 4) * 256 + x))] = pu (wp Bl (i + 1)) := by
    rw [pu_set (by rw [hlen]; omega), wp_step hi2 hx]
   have g5 : (pu (wp Bl i)).length = 16 := by rw [pu_len]; exact hlen
   refine G [3] ?_
   refine zbA 9 (by kernel_rfl) ?_
   refine G [2] ?_
   refine jcy ?_
   refine G [2] ?_
   refine jcy ?_
   refine zab (zan U213 sz86 (by omega) (by omega) (show _ = i / 4 by omega)) rfl rfl ⟨rfl, trivial⟩ ?_
   refine jdA (zaO U86 rfl g2) ?_
   refine G [3] ?_
   refine zaa (a_indexAddrV U62 sz5 (by omega) (by omega) (show _ = 64 * k + i by omega)) rfl rfl ?_
   refine jdA (zaO U5 rfl g1) ?_
   refine G [2] ?_
   refine zab (zan U213 sz86 (by omega) (by omega) (show _ = i / 4 by omega)) rfl rfl ⟨rfl, trivial⟩ ?_
   refine zab (zbB (Y := .p _) sz86 rfl rfl (by first | rfl | omega) (by first | omega | (simp; done) | (simp; omega)) g4) rfl rfl ⟨rfl, trivial⟩ ?_
   refine jcs ?_
   refine ⟨m2 - 1, by omega, _, zah id _ _ ?_ ?_ rfl, i + 1, by omega, rfl⟩
   ·exact jak
   ·exact jaU
  have hi3 : i = 64 := by simp at h; omega
  clear h
  subst hi3
  refine G [6] ?_
  refine zaR (fun n => 52 + 1000 * n) (compr_s v Bl) rfl rfl func154 rfl rfl (by kernel_rfl) (by kernel_rfl) rfl rfl rfl (by first | exact trivial | exact ⟨rfl, trivial⟩ | exact ⟨rfl, rfl, trivial⟩ | exact ⟨rfl, rfl, rfl, rfl, rfl, trivial⟩) rfl rfl rfl ?_
  refine G [4] ?_
  refine zaa (a_sliceV (L := (some (_, _))) (H := none) U62 sz5 ⟨by omega, (show _ = 64 by omega)⟩ rfl (by omega) (by omega) (show _ = pn - 64 * (k + 1) by omega) (show _ = 64 * (k + 1) by omega)) rfl rfl ?_
  refine G [2, 9, 0] ?_
  refine ⟨m - 1, by omega, _, zah (fun o => bif Nat.beq o 6 then 52 else o) _ _ ?_ ?_ rfl, k + 1, by omega, rfl⟩
  ·exact jak
  ·rw [hnx]
   exact jaC
 have hge : k = nb := by simp at h; omega
 clear h
 subst hge
 have hU := sumH_U Pd k
 generalize sumH Pd k = v at hU ⊢
 refine G [7] ?_
 refine za8 (zco 10 10 5 1 rfl rfl) ?_
 refine G [6] ?_
 refine zag (fun m st => ∃ k : Nat, m + k = 8 ∧ st = St.of [(10, .row 10), (55, .row 6), (56, .p (.v (.int .i64 8))), (57, .p (.v (.int .i64 k)))] [(10, .row 5 1 (4 * k) (bs (outK v k))), (6, .row 86 1 8 (pu v.l))]) 8 ?_ ?_
 ·refine jcS ?_ ?_
  ·exact jak
  ·exact ⟨⟨rfl, rfl⟩, ⟨rfl, rfl⟩, trivial⟩
 rintro m st ⟨k, hk, rfl⟩
 refine G [5] ?_
 refine cX (fun h => ?_) fun h => ?_
 ·have hlt : k < 8 := by simp at h; omega
  clear h
  have g1 := zeS (xs := v.l) (i := k) hlt
  have g2 := outK_next v k hlt
  have hx : isU (v.l.getD k 0) := hU _ (List.mem_of_getElem? (show v.l[k]? = some _ by rw [List.getD_eq_getElem?_getD, List.getElem?_eq_getElem (show k < v.l.length from hlt)]; rfl))
  generalize v.l.getD k 0 = x at g1 g2 hx
  have hw := w4_eq hx
  generalize w4 x = ws at hw g2
  have hwl : ws.length = 4 := by rw [hw]; rfl
  obtain ⟨hx0, hx1⟩ := hx
  refine G [6] ?_
  refine zab (zaO U86 rfl (by first | rfl | assumption | ((try simp only [List.getElem?_drop, List.getElem?_take, Int.toNat_natCast, Nat.mul_one, Nat.add_zero, Nat.zero_add]); first | assumption | rfl))) rfl rfl ⟨rfl, trivial⟩ ?_
  refine G [4] ?_
  refine zab (xs := (iu [16777216, 65536, 256, 1])) (zae (es := (iu [16777216, 65536, 256, 1])) (cs := (pu [16777216, 65536, 256, 1])) 61 U213 sz86 zc86 (Nat.le_of_ble_eq_true rfl) (Nat.le_of_ble_eq_true rfl) rfl (by kernel_rfl) (by kernel_rfl) (by kernel_rfl) (Nat.le_of_ble_eq_true rfl)) (by first | rfl | kernel_rfl) rfl ⟨rfl, trivial⟩ ?_
  refine G [4] ?_
  refine zag (fun m2 st => ∃ j : Nat, m2 + j = 4 ∧ st = St.of [(10, .row 10), (12, .p (.v (.int .u32 x))), (55, .row 6), (56, .p (.v (.int .i64 8))), (57, .p (.v (.int .i64 k))), (61, .row 61), (62, .p (.v (.int .i64 4))), (63, .p (.v (.int .i64 j)))] [(10, .row 5 1 (4 * k + j) (bs (outK v k ++ ws.take j))), (6, .row 86 1 8 (pu v.l)), (61, .row 86 1 4 (pu [16777216, 65536, 256, 1]))]) 4 ?_ ?_
  ·refine jcS ?_ ?_
   ·exact jak
   ·rw [List.take_zero, List.append_nil]
    exact jaC
  rintro m2 st ⟨j, hj, rfl⟩
  refine G [5] ?_
  refine cX (fun h => ?_) fun h => ?_
  ·have hj2 : j < 4 := by simp at h; omega
   clear h
   obtain ⟨u, hu, hu1, hwj, hq⟩ : ∃ u, (pu [16777216, 65536, 256, 1])[j]? = some (.v (.int .u32 u)) ∧ (1 ≤ u ∧ u ≤ 16777216) ∧ ws[j]? = some (x / u % 256) ∧ 0 ≤ x / u ∧ x / u ≤ 4294967295 := by
    rw [hw]
    have : j = 0 ∨ j = 1 ∨ j = 2 ∨ j = 3 := by omega
    rcases this with rfl | rfl | rfl | rfl
    ·exact ⟨16777216, rfl, by omega, rfl, by omega⟩
    ·exact ⟨65536, rfl, by omega, rfl, by omega⟩
    ·exact ⟨256, rfl, by omega, rfl, by omega⟩
    ·exact ⟨1, rfl, by omega, rfl, by omega⟩
   have hwt : ws.take (j + 1) = ws.take j ++ [x / u % 256] := by
    have hjl : j < ws.length := by omega
    rw [List.take_succ_eq_append_getElem hjl]
    congr 2
    exact (List.getElem?_eq_some_iff.1 hwj).2
   have hquo : IntKind.u32.wrap (x.tdiv u) = x / u := by rw [Int.tdiv_eq_ediv_of_nonneg hx0]; exact IntWalk.u32_in _ hq
   refine G [6] ?_
   refine zab (zaO U86 rfl (by first | rfl | assumption | ((try simp only [List.getElem?_drop, List.getElem?_take, Int.toNat_natCast, Nat.mul_one, Nat.add_zero, Nat.zero_add]); first | assumption | rfl))) rfl rfl ⟨rfl, trivial⟩ ?_
   refine G [6] ?_
   refine zaa (zfw (by omega) hquo) rfl rfl ?_
   refine jdd ?_
   refine zaa (zbL U86 U5 (by first | exact IntWalk.u8_in _ (by omega) | rfl)) rfl rfl ?_
   refine zab (xs := [.p (.v (.int .u8 (x / u % 256)))]) (zae (es := [.p (.v (.int .u8 (x / u % 256)))]) (cs := [.v (.int .u8 (x / u % 256))]) 73 U62 sz5 zc5 (Nat.le_of_ble_eq_true rfl) (Nat.le_of_ble_eq_true rfl) rfl (by kernel_rfl) (by kernel_rfl) (by kernel_rfl) (Nat.le_of_ble_eq_true rfl)) (by first | rfl | kernel_rfl) rfl ⟨rfl, trivial⟩ ?_
   refine zab (zal 74 U62 eo5 (zax) (by simp only [maxLen]; omega) (by omega) (show _ = 4 * k + (j + 1) by omega) rfl) rfl rfl ⟨rfl, rfl, rfl, trivial⟩ ?_
   refine jcs ?_
   refine ⟨m2 - 1, by omega, _, zah (fun o => bif Nat.beq o 10 then 74 else o) _ _ ?_ ?_ rfl, j + 1, by omega, rfl⟩
   ·exact jak
   ·rw [hwt, ← List.append_assoc, ← zcr]
    exact jaC
  have hj3 : j = 4 := by simp at h; omega
  clear h
  subst hj3
  refine jct ?_
  refine jcG ?_ ?_
  ·exact jak
  ·rw [← g2]
   have : ws = ws.take 4 := (List.take_of_length_le (by omega)).symm
   rw [this, List.take_take]
   exact ⟨⟨rfl, rfl⟩, ⟨rfl, rfl⟩, trivial⟩
 have hge : k = 8 := by simp at h; omega
 clear h
 subst hge
 refine jcM ?_
 refine yT (fun _ => 10) ?_ ?_
 ·exact rfl
 ·exact ⟨⟨rfl, rfl⟩, trivial⟩
end Go.Proofs.YtbjdjclkbjpebaaGreatDoor
