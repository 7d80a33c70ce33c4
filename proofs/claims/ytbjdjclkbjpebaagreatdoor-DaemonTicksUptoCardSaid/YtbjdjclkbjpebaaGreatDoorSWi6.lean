/- shake: numbers, tags, nonces, over data. -/
import Derived.Test.YtbjdjclkbjpebaaGreatDoorSFz
import Derived.Test.YtbjdjclkbjpebaaGreatDoorSBj
import Derived.Test.YtbjdjclkbjpebaaGreatDoorSPn1
import Derived.Test.YtbjdjclkbjpebaaGreatDoorSPs1
import Derived.Test.YtbjdjclkbjpebaaGreatDoorSSq
import Derived.Test.YtbjdjclkbjpebaaGreatDoorSWi1
import Derived.Test.YtbjdjclkbjpebaaGreatDoorSMa4
import Derived.Test.YtbjdjclkbjpebaaGreatDoorSMq
import Derived.Test.YtbjdjclkbjpebaaGreatDoorSEq3
namespace Go.Proofs.YtbjdjclkbjpebaaGreatDoor
open Tryz
open Go.RowKit Go.Sort
set_option maxHeartbeats 16000000
set_option linter.unusedVariables false
set_option linter.unusedSimpArgs false
set_option maxRecDepth 100000
theorem hx_dg : ∀ d : _root_.Fin 16, hx (dg d.val) = d.val := by decide +kernel
theorem hx_dg' {d : Int} (h0 : 0 ≤ d) (h1 : d < 16) : hx (dg d) = d := by
 have := hx_dg ⟨d.toNat, by omega⟩
 simp only at this
 rw [show ((d.toNat : Nat) : Int) = d by omega] at this
 exact this
theorem sAt_hexS {xs : List Int} (hB : isB xs) {i : Nat} {x : Int} (h : xs[i / 2]? = some x) : sAt (hexS xs) i = if i % 2 = 1 then dg (x % 16) else dg (x / 16) := by
 unfold sAt hexS
 rw [zcv (hexT_B hB), List.getD_eq_getElem?_getD, hexT_at h]; rfl
theorem hv_hexS {xs : List Int} (hB : isB xs) {i : Nat} {x : Int} (h : xs[i / 2]? = some x) : hv (hexS xs) i = if i % 2 = 1 then x % 16 else x / 16 := by
 unfold hv
 rw [sAt_hexS hB h]
 have hx := hB x (List.mem_of_getElem? h)
 split
 ·exact hx_dg' (by omega) (by omega)
 ·exact hx_dg' (by omega) (by omega)
theorem hexS_good {xs : List Int} (hB : isB xs) : zcp (hexS xs) = true := by
 rw [zbP]
 intro i hi
 rw [zg4] at hi
 have h : xs[i / 2]? = some (xs[i / 2]'(by omega)) := List.getElem?_eq_getElem _
 rw [hv_hexS hB h]
 have hx := hB _ (List.mem_of_getElem? h)
 split <;> omega
theorem hexE_hexS {xs : List Int} (hB : isB xs) (hl : xs.length ≤ 1000) : hexE (hexS xs) = 0 := by
 unfold hexE
 rw [zg4, if_neg (by omega), if_pos (by omega), if_pos (hexS_good hB)]
theorem keyE_hexS {xs : List Int} (hB : isB xs) (hl : xs.length = 32) : keyE (hexS xs) = 0 := by
 unfold keyE
 rw [zg4, hl, if_pos rfl]
 exact hexE_hexS hB (by omega)
theorem keyE_secS (a b sh : ByteArray) : keyE (secS a b sh) = 0 := keyE_hexS (macD_B _ _) (zev _ _)
def beI (n : Int) : List Int := [n / 16777216 % 256, n / 65536 % 256, n / 256 % 256, n % 256]
theorem beI_B (n : Int) : isB (beI n) := by
 intro x hx
 simp only [beI, List.mem_cons, List.not_mem_nil, or_false] at hx
 omega
theorem shNum_s (n : Int) : Fn prog 70 [.p (.v (.int .i64 n))] (.p (.sl 4 1 (bs (beI n)))) [] := by
 have w1 : IntKind.u8.wrap (n.fdiv (2 ^ min (24 : Int).toNat IntKind.i64.bits)) = n / 16777216 % 256 := by
  rw [show (2 : Int) ^ min (24 : Int).toNat IntKind.i64.bits = 16777216 from rfl, Int.fdiv_eq_ediv_of_nonneg _ (by omega)]; rfl
 have w2 : IntKind.u8.wrap (n.fdiv (2 ^ min (16 : Int).toNat IntKind.i64.bits)) = n / 65536 % 256 := by
  rw [show (2 : Int) ^ min (16 : Int).toNat IntKind.i64.bits = 65536 from rfl, Int.fdiv_eq_ediv_of_nonneg _ (by omega)]; rfl
 have w3 : IntKind.u8.wrap (n.fdiv (2 ^ min (8 : Int).toNat IntKind.i64.bits)) = n / 256 % 256 := by
  rw [show (2 : Int) ^ min (8 : Int).toNat IntKind.i64.bits = 256 from rfl, Int.fdiv_eq_ediv_of_nonneg _ (by omega)]; rfl
 have w4 : IntKind.u8.wrap n = n % 256 := rfl
 refine fnI fun w0 A => ?_
 refine G [7] ?_
 refine jcK ?_
 refine jdz (zbL U3 U5 w1) ?_
 refine jco ?_
 refine jcK ?_
 refine jdz (zbL U3 U5 w2) ?_
 refine jco ?_
 refine jcK ?_
 refine jdz (zbL U3 U5 w3) ?_
 refine jco ?_
 refine jdz (zbL U3 U5 w4) ?_
 refine zab (xs := [.p (.v (.int .u8 (n / 16777216 % 256))), .p (.v (.int .u8 (n / 65536 % 256))), .p (.v (.int .u8 (n / 256 % 256))), .p (.v (.int .u8 (n % 256)))]) (zae (es := [.p (.v (.int .u8 (n / 16777216 % 256))), .p (.v (.int .u8 (n / 65536 % 256))), .p (.v (.int .u8 (n / 256 % 256))), .p (.v (.int .u8 (n % 256)))]) (cs := [.v (.int .u8 (n / 16777216 % 256)), .v (.int .u8 (n / 65536 % 256)), .v (.int .u8 (n / 256 % 256)), .v (.int .u8 (n % 256))]) 14 U62 sz5 zc5 (Nat.le_of_ble_eq_true rfl) (Nat.le_of_ble_eq_true rfl) rfl (by kernel_rfl) (by kernel_rfl) (by kernel_rfl) (Nat.le_of_ble_eq_true rfl)) (by first | rfl | kernel_rfl) rfl ⟨rfl, trivial⟩ ?_
 refine G [2, 9, 0] ?_
 refine za2 (zc7 (cs := bs (beI n)) 14 rfl) ?_
 refine zaE ?_
 exact yE
theorem join3 {a b c : List Int} : [a, b, c].flatten = a ++ b ++ c := by simp
theorem stag_s (k u : ByteArray) (a b c : List Int) (hk : keyE k = 0) (ha : isB a) (hb : isB b) (hc : isB c) (hz : u.size + (a.length + b.length + c.length) ≤ 900) :
  Fn prog 69 [.p (.v (.string k)), .p (.v (.string u)), .p (.sl 3 1 [.sl a.length 1 (bs a), .sl b.length 1 (bs b), .sl c.length 1 (bs c)])] (.tup [.p (.sl 16 1 (bs ((macD k (sb u ++ (a ++ b ++ c))).take 16))), .p (.v (.int .i64 0))]) [] := by
 have hJ := bjoin_s [a, b, c] (by intro x hx; simp only [List.mem_cons, List.not_mem_nil, or_false] at hx; rcases hx with rfl | rfl | rfl <;> assumption) (by simp) (by simp) (by rw [join3]; simp only [List.length_append]; omega)
 rw [join3] at hJ
 have hB : isB (sb u ++ (a ++ b ++ c)) := zbg (sb_isB u) (zbg (zbg ha hb) hc)
 have hlen : (sb u ++ (a ++ b ++ c)).length = u.size + (a ++ b ++ c).length := by rw [List.length_append, zc6]
 have hT := tag_s k (u.size + (a ++ b ++ c).length) (sb u ++ (a ++ b ++ c)) hlen hB
 have hal : (a ++ b ++ c).length = a.length + b.length + c.length := by simp only [List.length_append]
 obtain ⟨e1, e2⟩ := zaW (show macE k (u.size + (a ++ b ++ c).length) = 0 by unfold macE; rw [if_pos hk, if_neg (by omega)]) 32 (macD k (sb u ++ (a ++ b ++ c)))
 rw [e1, e2] at hT
 clear e1 e2
 have hD := zev k (sb u ++ (a ++ b ++ c))
 have happ : bs (sb u) ++ bs (a ++ b ++ c) = bs (sb u ++ (a ++ b ++ c)) := zbp
 have hJ' : Fn prog 71 [.p (.sl 3 1 [.sl a.length 1 (bs a), .sl b.length 1 (bs b), .sl c.length 1 (bs c)]), .p (.v (.slice none 0 0))] (.p (.sl (a ++ b ++ c).length 1 (bs (a ++ b ++ c)))) [] := hJ
 have hbl : (bs (macD k (sb u ++ (a ++ b ++ c)))).length = 32 := by rw [bs_length]; exact hD
 have ht16 : bs ((macD k (sb u ++ (a ++ b ++ c))).take 16) = ((bs (macD k (sb u ++ (a ++ b ++ c)))).drop 0).take (16 * 1) := by simp [bs, List.map_take]
 rw [ht16]
 generalize macD k (sb u ++ (a ++ b ++ c)) = D at *
 clear hJ hB hlen ht16
 generalize a ++ b ++ c = J at *
 refine fnI fun w0 A => ?_
 refine G [9] ?_
 refine zab (zf7 13 U9 U62 U5 (by first | omega | (simp only [maxLen]; omega)) rfl rfl) rfl rfl ⟨rfl, trivial⟩ ?_
 refine jco ?_
 refine cK hJ' ?_
 refine zab (zal 16 U62 eo5 (zbn) (by simp only [maxLen]; omega) (by omega) rfl happ) rfl rfl ⟨rfl, rfl, trivial⟩ ?_
 refine cV hT ?_
 refine G [10, 1, 1, 9, 0] ?_
 refine cX (fun h => ?_) fun h => ?_
 ·cases h
 refine za2 (zc7 (cs := bs D) 17 rfl) ?_
 refine G [4] ?_
 (first | refine zab (zeC (L := none) (H := (some (_, _))) U62 sz5 rfl ⟨by omega, rfl⟩ (by omega) (by omega) rfl rfl) rfl rfl ⟨rfl, trivial⟩ ?_ | refine zaa (ziD (L := none) (H := (some (_, _))) U62 sz5 rfl ⟨by omega, rfl⟩ (by omega) (by omega) rfl rfl) rfl rfl ?_)
 refine G [4, 9, 0] ?_
 exact yE
def noE (s : ByteArray) : Int := if s.size = 16 then hexE s else 1
theorem shNonce_s (s : ByteArray) : Fn prog 67 [.p (.v (.string s))] (pRes (noE s) 8 (zaq s 8)) [] := by
 have hB := zci s
 by_cases hz : s.size = 16
 ·have hE : noE s = hexE s := by unfold noE; rw [if_pos hz]
  rw [hE]
  by_cases he : hexE s = 0
  ·obtain ⟨e1, e2⟩ := za1 he
   rw [e1, e2, hz] at hB
   rw [zfn he]
   change Fn prog 88 _ _ [(0, .row 5 1 8 (bs (zaq s 8)))] at hB
   generalize zaq s 8 = D at *
   exact jbO
  ·obtain ⟨e1, e2⟩ := zbw rfl he
   rw [e1, e2] at hB
   rw [zge rfl he]
   generalize hexE s = e at *
   exact jbO
 ·have hE : noE s = 1 := by unfold noE; rw [if_neg hz]
  rw [zge hE (by decide)]
  refine fnI fun w0 A => ?_
  refine G [12, 9, 0] ?_
  refine cX (fun h => ?_) fun h => ?_
  ·refine jcs ?_
   exact yE
  ·exact absurd (by simp at h; omega) hz
theorem i64_and_255Z (n : Int) : bits .and .i64 n 255 = n % 256 := by
 have h2 : (BitVec.ofInt 64 (255 : Int)).toNat = 2 ^ 8 - 1 := by decide
 show IntKind.i64.wrap ((BitVec.ofInt 64 n &&& BitVec.ofInt 64 255).toNat : Int) = _
 rw [BitVec.toNat_and, h2, Nat.and_two_pow_sub_one_eq_mod, BitVec.toNat_ofInt, IntKind.wrap_i64]
 have e : ((2 ^ 64 : Nat) : Int) = 18446744073709551616 := rfl
 rw [e]
 omega
def qz (n : Int) : Nat → Int
 | 0 => n
 | k + 1 => qz n k / 256
def bzK (n : Int) (k : Nat) : List Int := List.replicate (4 - k) 0 ++ (beI n).drop (4 - k)
theorem bzK_len (n : Int) {k : Nat} (hk : k ≤ 4) : (bzK n k).length = 4 := by
 rw [bzK, List.length_append, List.length_replicate, List.length_drop]
 show 4 - k + (4 - (4 - k)) = 4
 omega
theorem bzK_set (n : Int) {k : Nat} (hk : k < 4) : (bzK n k).set (3 - k) (qz n k % 256) = bzK n (k + 1) := by
 match k, hk with
 | 0, _ => simp [bzK, beI, qz]
 | 1, _ => simp [bzK, beI, qz]
 | 2, _ => simp [bzK, beI, qz, Int.ediv_ediv_of_nonneg]
 | 3, _ => simp [bzK, beI, qz, Int.ediv_ediv_of_nonneg]
theorem bigZ_s (n : Int) (n0 : -9223372036854775808 ≤ n) (n1 : n ≤ 9223372036854775807) : Fn prog 84 [.p (.v (.int .i64 n)), .p (.v (.int .i64 4))] (.row 0) [(0, .row 5 1 4 (bs (beI n)))] := by
 refine fnI fun w0 A => ?_
 refine G [7] ?_
 refine zab (zhm 8 U62 eo5 zr5 rfl (by omega) (by omega) (by omega) (by simp only [maxLen]; omega) rfl) rfl rfl ⟨rfl, trivial⟩ ?_
 refine G [10] ?_
 refine zag (fun m st => ∃ k : Nat, m + k = 4 ∧ st = St.of [(0, .p (.v (.int .i64 (qz n k)))), (5, .row 5), (6, .p (.v (.int .i64 (3 - (k : Int)))))] [(5, .row 5 1 4 (bs (bzK n k)))]) 4 ?_ ?_
 ·refine ⟨_, zah (fun _ => 8) _ _ ?_ ?_ rfl, 0, by omega, rfl⟩
  ·exact (by repeat (first | exact trivial | refine ⟨⟨rfl, rfl⟩, ?_⟩))
  ·exact ⟨⟨rfl, rfl⟩, trivial⟩
 rintro m st ⟨k, hk, rfl⟩
 refine jcs ?_
 refine cX (fun h => ?_) fun h => ?_
 ·have hlt : k < 4 := by simp at h; omega
  clear h
  have hset := bzK_set n hlt
  have hlen := bzK_len n (Nat.le_of_lt hlt)
  have hnx : qz n (k + 1) = qz n k / 256 := rfl
  generalize qz n k = q at hset hnx ⊢
  have g4 : setR (bs (bzK n k)) (3 - k) [.v (.int .u8 (q % 256))] = bs (bzK n (k + 1)) := by rw [zhd (by omega), hset]
  have g5 : (bs (bzK n k)).length = 4 := by rw [bs_length]; exact hlen
  have g6 : q.fdiv (2 ^ min (8 : Int).toNat IntKind.i64.bits) = q / 256 := by
   rw [show (2 : Int) ^ min (8 : Int).toNat IntKind.i64.bits = 256 from rfl, Int.fdiv_eq_ediv_of_nonneg _ (by omega)]
  refine G [8] ?_
  refine zaa (zaU (by simp) (i64_and_255Z q)) rfl rfl ?_
  refine zaa (zbL U3 U5 (by first | exact IntWalk.u8_in _ (by omega) | rfl)) rfl rfl ?_
  refine zab (zan U62 sz5 (by omega) (by omega) (show _ = 3 - k by omega)) rfl rfl ⟨rfl, trivial⟩ ?_
  refine jc0 ?_
  refine G [3] ?_
  refine zaa (zce (by omega) g6) rfl rfl ?_
  refine jcq ?_
  refine jcG ?_ ?_
  ·refine ⟨⟨?_, rfl⟩, ⟨rfl, rfl⟩, ⟨?_, rfl⟩, trivial⟩
   ·show AV.p (.v (.int .i64 (q / 256))) = AV.p (.v (.int .i64 (qz n (k + 1))))
    rw [hnx]
   ·show AV.p (.v (.int .i64 (3 - (k : Int) - 1))) = AV.p (.v (.int .i64 (3 - ((k + 1 : Nat) : Int))))
    congr 3; omega
  ·exact ⟨⟨rfl, rfl⟩, trivial⟩
 have hge : k = 4 := by simp at h; omega
 clear h
 subst hge
 rw [show bzK n 4 = beI n by simp [bzK]]
 exact jbB
end Go.Proofs.YtbjdjclkbjpebaaGreatDoor
namespace Go.Proofs.YtbjdjclkbjpebaaGreatDoor
open Go.RowKit
set_option linter.unusedVariables false
def Slot.isLive : Slot → Bool
 | .live _ => true
 | _ => false
def zhv (rds : List (Nat × Slot)) : List (Nat × Slot) := rds.map fun p => (p.1, Slot.dead)
theorem zcX {h : Nat → Slot} : ∀ {l : List (Nat × Slot)} {o : Nat}, (updL h (zhv l) o = .dead ∧ o ∈ l.map Prod.fst) ∨ (updL h (zhv l) o = h o ∧ o ∉ l.map Prod.fst)
 | [], o => .inr ⟨rfl, by simp⟩
 | (n, s) :: l, o => by
  by_cases e : o = n
  ·subst e; exact .inl ⟨by simp [zhv, updL], by simp⟩
  ·have hu : updL h (zhv ((n, s) :: l)) o = updL h (zhv l) o := by
    show (bif Nat.beq o n then Slot.dead else updL h (zhv l) o) = _
    rw [nbeq e, cond_false]
   rw [hu]
   rcases zcX (h := h) (l := l) (o := o) with ⟨h1, h2⟩ | ⟨h1, h2⟩
   ·exact .inl ⟨h1, by simp [h2]⟩
   ·exact .inr ⟨h1, by simp only [List.map_cons, List.mem_cons, not_or]; exact ⟨e, h2⟩⟩
theorem updL_app {h : Nat → Slot} : ∀ a b : List (Nat × Slot), updL (updL h b) a = updL h (a ++ b)
 | [], b => rfl
 | (n, s) :: l, b => by
  funext o
  show (bif Nat.beq o n then s else updL (updL h b) l o) = (bif Nat.beq o n then s else updL h (l ++ b) o)
  rw [updL_app l b]
theorem mem_kill {w0 : World} {A S : Nat → Prop} {m : Nat → Option Value} {heap : Nat → Slot} {w : World} {rds : List (Nat × Slot)} (hm : Mem w0 A S m heap w) (hrd : ∀ p ∈ rds, heap p.1 = p.2) (hl : rds.all (fun p => p.2.isLive) = true) :
  Mem w0 A (fun b => S b ∨ ∃ p ∈ rds, ∃ v, m p.1 = some v ∧ blk v = some b) m (updL heap (zhv rds)) w := by
 have key : ∀ p ∈ rds, ∃ ob v, heap p.1 = .live ob ∧ m p.1 = some v ∧ ORep w0.heap.size S m w ob v := fun p hp => by
  have h1 := List.all_eq_true.1 hl p hp
  have h2 := hrd p hp
  cases hs : p.2 with
  | live ob =>
   rw [hs] at h2
   obtain ⟨v, k1, k2, _⟩ := hm.live _ _ h2
   exact ⟨ob, v, h2, k1, k2⟩
  | un => rw [hs] at h1; cases h1
  | dead => rw [hs] at h1; cases h1
 have hlt : ∀ p ∈ rds, ∀ v b, m p.1 = some v → blk v = some b → w0.heap.size ≤ b ∧ b < w.heap.size := fun p hp v b hv hb => by
  obtain ⟨ob, v', _, k2, k3⟩ := key p hp
  rw [hv] at k2; cases k2
  exact k3.lt hb
 refine ⟨hm.bel, ?_, ?_, ?_, ?_, ?_, hm.gl⟩
 ·rintro b (h | ⟨p, hp, v, hv, hb⟩)
  ·exact hm.sA b h
  ·exact .inr (hlt p hp v b hv hb).1
 ·rintro b (h | ⟨p, hp, v, hv, hb⟩)
  ·exact hm.sW b h
  ·exact (hlt p hp v b hv hb).2
 ·intro o ho
  rcases zcX (h := heap) (l := rds) (o := o) with ⟨h1, _⟩ | ⟨h1, _⟩
  ·rw [h1] at ho; cases ho
  ·rw [h1] at ho; exact hm.un o ho
 ·intro o ob ho
  rcases zcX (h := heap) (l := rds) (o := o) with ⟨h1, _⟩ | ⟨h1, h2⟩
  ·rw [h1] at ho; cases ho
  ·rw [h1] at ho
   obtain ⟨v, k1, k2, k3⟩ := hm.live o ob ho
   refine ⟨v, k1, ORep.mono ⟨fun _ h => .inl h, fun _ _ => rfl, fun _ _ h => h⟩ k2 fun _ _ => rfl, ?_⟩
   rintro b hb (h | ⟨p, hp, v', hv', hb'⟩)
   ·exact k3 b hb h
   ·obtain ⟨ob', _, q1, _, _⟩ := key p hp
    exact h2 (List.mem_map.2 ⟨p, hp, hm.inj _ _ _ _ _ _ b q1 ho hv' k1 hb' hb⟩)
 ·intro o o' ob ob' v v' b ho ho' hv hv' hb hb'
  rcases zcX (h := heap) (l := rds) (o := o) with ⟨h1, _⟩ | ⟨h1, _⟩
  ·rw [h1] at ho; cases ho
  rcases zcX (h := heap) (l := rds) (o := o') with ⟨h2, _⟩ | ⟨h2, _⟩
  ·rw [h2] at ho'; cases ho'
  rw [h1] at ho; rw [h2] at ho'
  exact hm.inj _ _ _ _ _ _ b ho ho' hv hv' hb hb'
section
variable {P : Program} {d : Option Tmp} {ty : TypeId} {pos : String} {af : Array Edge} {g : Option (Nat × Bool)} {x : Operand} {args : Array Operand} {ts : Array TypeId} {f : FuncId} {fn : Func}
theorem a_callW {xs cs : List AV} {rds : List (Nat × Slot)} {res : AV} {news : List (Nat × AObj)} (ρ : Nat → Nat) (hf : P.funcs[f]? = some fn) (hb : fn.body.isNone = false) (hn : (fn.name == "runtime.NumGoroutine") = false)
  (hC : Fn P f (AV.viewL (fun _ => false) (zch rds) (xs ++ cs)) res news) (hl : rds.all (fun p => p.2.isLive) = true) (h3 : res.okIn (news.map Prod.fst) = true) (h4 : zby (news.map Prod.fst) = true) (h5 : zby (news.map fun p => ρ p.1) = true) :
  AOp P ⟨d, .call { callee := .value x, args := args, argTypes := ts }, ty, pos, af, g⟩ (.fn f cs :: xs) (rds ++ news.map fun p => (ρ p.1, .un)) (zbN ρ news ++ zhv rds) (res.ren ρ) := by
 intro w0 A S m heap w ev hm hR hrd
 obtain ⟨us, e1, e2⟩ := zit hR
 unfold Out
 rw [zgb hf hb hn e1]
 have hrd1 : ∀ p ∈ rds, heap p.1 = p.2 := fun p hp => hrd p (by simp [hp])
 have hk := mem_kill hm hrd1 hl
 have hO : ∀ o ob, zch rds o = .live ob → ∃ v, m o = some v ∧ ORep w0.heap.size S m w ob v := fun o ob ho => by
  rcases zeO (heap := heap) (rds := rds) (o := o) (fun p hp => hrd1 p hp) with h | h
  ·rw [h] at ho; cases ho
  ·rw [h] at ho
   obtain ⟨v, k1, k2, _⟩ := hm.live o ob ho
   exact ⟨v, k1, k2⟩
 have hin : ∀ (l : List (Nat × Slot)) o ob, zch l o = .live ob → ∃ p ∈ l, p.1 = o := by
  intro l
  induction l with
  | nil => intro o ob h; cases h
  | cons q l ih =>
   intro o ob h
   by_cases e : o = q.1
   ·exact ⟨q, by simp, e.symm⟩
   ·simp only [zch, updL, nbeq e, cond_false] at h
    obtain ⟨p, hp, rfl⟩ := ih o ob h
    exact ⟨p, by simp [hp], rfl⟩
 have hT : ∀ o ob v b, zch rds o = .live ob → m o = some v → blk v = some b → (S b ∨ ∃ p ∈ rds, ∃ v, m p.1 = some v ∧ blk v = some b) := fun o ob v b ho hv hb => by
  obtain ⟨p, hp, rfl⟩ := hin rds o ob ho
  exact .inr ⟨p, hp, v, hv, hb⟩
 have hST : ∀ b, S b → (S b ∨ ∃ p ∈ rds, ∃ v, m p.1 = some v ∧ blk v = some b) := fun b h => .inl h
 have e3 := zdA (keep := fun _ => false) (T := fun b => S b ∨ ∃ p ∈ rds, ∃ v, m p.1 = some v ∧ blk v = some b) (m' := fun _ => none) hO hST
  (fun o off n size u _ hr => zdQ hO hST (fun ob v b g1 g2 g3 => hT o ob v b g1 g2 g3) hr)
  (fun o u _ hr => zeQ hO hST (fun ob v b g1 g2 g3 => hT o ob v b g1 g2 g3) hr) (fun o v hk => by cases hk) _ _ e2
 have hcall := hC w _ _ hk.sW (hk.gl.below hk.bel) e3
 have e4 : args.map ev ++ us.toArray = ((args.map ev).toList ++ us).toArray := by simp
 rw [e4]
 refine hcall.mono fun e w' ⟨v, he, S', m', hres, hkk⟩ => ⟨v, he, ?_⟩
 generalize hS1 : (fun b => S b ∨ ∃ p ∈ rds, ∃ v, m p.1 = some v ∧ blk v = some b) = S1 at hk hkk
 have hsub : ∀ b, S' b → S1 b ∨ (S' b ∧ w.heap.size ≤ b) := fun b hb => (hkk.sA b hb).imp id fun h => ⟨hb, h⟩
 obtain ⟨m2, k1, k2, k3⟩ := zgI (S2 := fun b => S1 b ∨ (S' b ∧ w.heap.size ≤ b)) ρ hk hkk (Rep.mono ⟨hsub, fun _ _ => rfl, fun _ _ h => h⟩ _ _ hres) (fun o ob u ho hr => hr.mono ⟨hsub, fun _ _ => rfl, fun _ _ h => h⟩ fun _ _ => rfl) (fun b h => .inl h) (fun b h => h) (fun k hk2 => by
   obtain ⟨p, hp, rfl⟩ := List.mem_map.1 hk2
   have hu := hrd (ρ p.1, .un) (List.mem_append_right _ (List.mem_map.2 ⟨p, hp, rfl⟩))
   rcases zcX (h := heap) (l := rds) (o := ρ p.1) with ⟨_, h2⟩ | ⟨h1, _⟩
   ·exfalso
    obtain ⟨q, hq, hqe⟩ := List.mem_map.1 h2
    have a1 := hrd1 q hq
    have a2 := List.all_eq_true.1 hl q hq
    rw [hqe] at a1
    rw [← a1, hu] at a2
    cases a2
   ·rw [h1]; exact hu) h4 h5 h3
 rw [updL_app] at k2
 refine ⟨_, m2, k1, k2, ?_⟩
 have g0 : Grow S m w S1 m w := ⟨fun b h => by rw [← hS1]; exact .inl h, fun _ _ => rfl, fun _ _ h => h⟩
 exact g0.trans k3
end
section
variable {P : Program} {ops : Array Oper} {K : List Foot → St → Prop} {l : List Oper} {fs : List Foot} {st : St} {d : Option Tmp} {ty : TypeId} {pos : String} {af : Array Edge} {gd : Option (Nat × Bool)}
theorem r_callW {x : Operand} {args : Array Operand} {ts : Array TypeId} {f : FuncId} {fn : Func} {zs cs : List AV} {res : AV} {news : List (Nat × AObj)} (ρ : Nat → Nat) (hC : Fn P f zs res news) (hx : st.ev x = .fn f cs) (hxs : AV.viewL (fun _ => false) st.heap (args.toList.map st.ev ++ cs) = zs) (hf : P.funcs[f]? = some fn) (hb : fn.body.isNone = false) (hn : (fn.name == "runtime.NumGoroutine") = false)
  {os : List Nat} (hos : AV.objsL (args.toList.map st.ev ++ cs) = os) (hl : (os.all fun o => (st.heap o).isLive) = true) (h3 : res.okIn (news.map Prod.fst) = true) (h4 : zby (news.map Prod.fst) = true) (h5 : zby (news.map fun p => ρ p.1) = true)
  (hun : Rds st (news.map fun p => (ρ p.1, .un))) (hg : zaB ops ⟨d, .call { callee := .value x, args := args, argTypes := ts }, ty, pos, af, gd⟩ st = some true) {r : AV} (hr : res.ren ρ = r) {wrs : List (Nat × Slot)} (hw : zbN ρ news ++ os.map (fun o => (o, Slot.dead)) = wrs)
  (k : ARun P ops K l (fs ++ [(os ++ news.map (fun p => ρ p.1), news.map (fun p => ρ p.1) ++ os)]) ((st.upd wrs).put d r)) :
  ARun P ops K (⟨d, .call { callee := .value x, args := args, argTypes := ts }, ty, pos, af, gd⟩ :: l) fs st := by
 subst hxs
 subst hr
 subst hw
 subst hos
 have hview : AV.viewL (fun _ => false) (zch ((AV.objsL (args.toList.map st.ev ++ cs)).map fun o => (o, st.heap o))) (args.toList.map st.ev ++ cs) = AV.viewL (fun _ => false) st.heap (args.toList.map st.ev ++ cs) := zcW _ _ fun o ho => by
  have : ∀ l : List Nat, o ∈ l → zch (l.map fun o => (o, st.heap o)) o = st.heap o := by
   intro l
   induction l with
   | nil => intro h; cases h
   | cons a l ih =>
    intro h
    by_cases e : o = a
    ·subst e; simp [zch, updL]
    ·rcases List.mem_cons.1 h with h | h
     ·exact absurd h e
     ·simp only [List.map_cons, zch, updL, nbeq e, cond_false]; exact ih h
  exact this _ ho
 have hop := a_callW (P := P) (d := d) (ty := ty) (pos := pos) (af := af) (g := gd) (x := x) (args := args) (ts := ts) (rds := (AV.objsL (args.toList.map st.ev ++ cs)).map fun o => (o, st.heap o)) ρ hf hb hn (by rw [hview]; exact hC) (by simpa [List.all_map, Function.comp_def] using hl) h3 h4 h5
 refine zab hop ?_ hg ?_ ?_
 ·rw [← hx]
  simp [Op.operands, Call.operands]
 ·have app : ∀ a b : List (Nat × Slot), Rds st a → Rds st b → Rds st (a ++ b) := by
   intro a
   induction a with
   | nil => intro b _ h; exact h
   | cons p a ih => intro b h1 h2; exact ⟨h1.1, ih b h1.2 h2⟩
  refine app _ _ ?_ hun
  generalize AV.objsL (args.toList.map st.ev ++ cs) = l
  induction l with
  | nil => trivial
  | cons a l ih => exact ⟨rfl, ih⟩
 ·have e1 : ((AV.objsL (args.toList.map st.ev ++ cs)).map (fun o => (o, st.heap o)) ++ news.map fun p => (ρ p.1, Slot.un)).map Prod.fst = AV.objsL (args.toList.map st.ev ++ cs) ++ news.map (fun p => ρ p.1) := by
   simp [List.map_map, Function.comp_def]
  have e3 : zhv ((AV.objsL (args.toList.map st.ev ++ cs)).map fun o => (o, st.heap o)) = (AV.objsL (args.toList.map st.ev ++ cs)).map fun o => (o, Slot.dead) := by
   simp [zhv, List.map_map, Function.comp_def]
  have e2 : (zbN ρ news ++ (AV.objsL (args.toList.map st.ev ++ cs)).map fun o => (o, Slot.dead)).map Prod.fst = news.map (fun p => ρ p.1) ++ AV.objsL (args.toList.map st.ev ++ cs) := by
   simp [zbN, List.map_map, Function.comp_def]
  rw [e3, e1, e2]
  exact k
end
end Go.Proofs.YtbjdjclkbjpebaaGreatDoor
namespace Go.Proofs.YtbjdjclkbjpebaaGreatDoor
open Go.RowKit Go.Sort
set_option linter.unusedVariables false
set_option linter.unusedSimpArgs false
set_option maxRecDepth 100000
def MS0 : List AV := [.p (.v (.int .i64 0)), .p (.v (.int .i64 0)), .p (.v (.int .i64 0)), .p (.v (.int .i64 0)), .p (.v (.slice none 0 0))]
end Go.Proofs.YtbjdjclkbjpebaaGreatDoor
