/- trie: nets, sides, growing a tree of a list. -/
import Derived.Test.YtbjdjclkbjpebaaGreatDoorSFz
import Derived.Test.YtbjdjclkbjpebaaGreatDoorSTrY
import Derived.Test.YtbjdjclkbjpebaaGreatDoorSNetZ
namespace Go.Proofs.YtbjdjclkbjpebaaGreatDoor
open Tryz
open Go.RowKit Go.Sort
set_option linter.unusedVariables false
set_option linter.unusedSimpArgs false
set_option maxRecDepth 100000
set_option maxHeartbeats 16000000
theorem nHolds_s (a n b m : Int) (h2 : 0 ≤ a) (h3 : a < 4294967296) (h4 : 0 ≤ b) (h5 : b < 4294967296) : Fn prog 138 [.agg (netA a n), .agg (netA b m)] (.p (.v (.bool (zaY a n b m)))) [] :=
 zcS rfl (fun _ _ _ => zaV rfl) (holds_g a n b m h2 h3 h4 h5)
theorem zim (p q : Key) (hp : p.length ≤ 32) (hq : q.length ≤ 32) : Fn prog 138 [.agg (netA (zaA p) p.length), .agg (netA (zaA q) q.length)] (.p (.v (.bool (decide (p <+: q))))) [] := by
 have h := nHolds_s (zaA p) p.length (zaA q) q.length (zbq p hp).1 (zbq p hp).2 (zbq q hq).1 (zbq q hq).2
 rw [holds_pre p q hp hq] at h
 exact h
def bitN (q : Key) (i : Nat) : Nat := if zbK q i = true then 1 else 0
theorem bitN_le (q : Key) (i : Nat) : bitN q i ≤ 1 := by unfold bitN; split <;> omega
theorem side_bits (p q : Key) (h : p.length < q.length) (hq : q.length ≤ 32) : bits .and .u32 ((zaA q).fdiv (2 ^ min (31 - (p.length : Int)).toNat IntKind.u32.bits)) 1 = (bitN q p.length : Nat) := by
 have hm : min (31 - (p.length : Int)).toNat IntKind.u32.bits = (31 - (p.length : Int)).toNat := Nat.min_eq_left (by simp only [IntKind.bits]; omega)
 obtain ⟨b0, b1⟩ := zbq q hq
 obtain ⟨s0, s1⟩ := shr_bd (zaA q) (31 - (p.length : Int)).toNat b0 b1
 rw [hm, Int.fdiv_eq_ediv_of_nonneg _ (Int.le_of_lt (zdl _)), zf2 _ s0 s1, bit_key q p.length hq h]
 unfold bitN; split <;> rfl
theorem side_s (p q : Key) (h : p.length < q.length) (hq : q.length ≤ 32) : Fn prog 139 [.agg (netA (zaA p) p.length), .agg (netA (zaA q) q.length)] (.p (.v (.int .i64 (bitN q p.length : Nat)))) [] := by
 have hsb := side_bits p q h hq
 have hl := bitN_le q p.length
 generalize bitN q p.length = b at *
 refine fnI fun w0 A => ?_
 refine G [13] ?_
 refine jcK ?_
 refine zaa (zaU (by simp) hsb) rfl rfl ?_
 refine G [4, 9, 0] ?_
 exact yE
theorem below_s (p q : Key) (hp : p.length ≤ 32) (hq : q.length ≤ 32) : Fn prog 166 [.agg (netA (zaA p) p.length), .agg (netA (zaA q) q.length)] (.p (.v (.bool (zeK p q)))) [] := by
 have hH := zim p q hp hq
 have e : zeK p q = (decide ((p.length : Int) < (q.length : Int)) && decide (p <+: q)) := by unfold zeK; congr 1; exact decide_eq_decide.2 (by omega)
 rw [e]
 generalize decide (p <+: q) = c at *
 refine fnI fun w0 A => ?_
 refine G [14] ?_
 refine mb2 _ rfl rfl (fun hb => (zak U88 rfl sz88 (by first | exact Nat.le_of_ble_eq_true rfl | omega | (simp only [AV.cells, List.length_map]; omega)) (by first | exact zcC (by first | assumption | exact Nat.eq_of_beq_eq_true rfl | (simp only [AV.cells, List.length_map]; first | assumption | omega)) | (simp only [List.take_succ_cons, List.take_zero, List.drop_succ_cons, List.drop_zero]; rfl) | rfl))) (fun _ => ⟨rfl, trivial⟩) ?_
 refine mb2 _ rfl rfl (fun hb => (zak U88 rfl sz88 (by first | exact Nat.le_of_ble_eq_true rfl | omega | (simp only [AV.cells, List.length_map]; omega)) (by first | exact zcC (by first | assumption | exact Nat.eq_of_beq_eq_true rfl | (simp only [AV.cells, List.length_map]; first | assumption | omega)) | (simp only [List.take_succ_cons, List.take_zero, List.drop_succ_cons, List.drop_zero]; rfl) | rfl))) (fun _ => ⟨rfl, trivial⟩) ?_
 refine mb2 _ rfl rfl (fun _ => zbc func138 rfl rfl (hH) (by first | rfl | simp [AV.okInL, AV.okIn, zay]) rfl) (fun _ => trivial) ?_
 refine G [0, 2, 3, 9, 0] ?_
 exact yE
def trP : TR → PV
 | .nil => .v (.pointer none)
 | .nd p o l r => .pt [.v (.int .u32 (zaA p)), .v (.int .i64 p.length), .v (.string o), trP l, trP r]
def nds (l : List ND) : List PV := l.flatMap ND.pv
def ndsV (l : List ND) : PV := .sl l.length 4 (nds l)
theorem zdp (x : ND) (l : List ND) : nds (x :: l) = .v (.int .u32 x.a) :: .v (.int .i64 x.n) :: .v (.string x.o) :: .v (.int .i64 x.s) :: nds l := rfl
theorem zgR (l r : List ND) : nds (l ++ r) = nds l ++ nds r := by simp [nds]
theorem zeb : ∀ l : List ND, (nds l).length = l.length * 4
 | [] => rfl
 | x :: l => by rw [zdp]; simp only [List.length_cons, zeb l]; omega
theorem zif : ∀ (l : List ND) (k : Nat), (nds l).take (k * 4) = nds (l.take k)
 | l, 0 => by simp [nds]
 | [], k + 1 => by simp [nds]
 | x :: l, k + 1 => by
  rw [zdp, List.take_succ_cons, zdp, ← zif l k, show (k + 1) * 4 = k * 4 + 1 + 1 + 1 + 1 by omega]
  simp only [List.take_succ_cons]
theorem zig : ∀ (l : List ND) (k : Nat), (nds l).drop (k * 4) = nds (l.drop k)
 | l, 0 => by simp
 | [], k + 1 => by simp [nds]
 | x :: l, k + 1 => by
  rw [zdp, List.drop_succ_cons, ← zig l k, show (k + 1) * 4 = k * 4 + 1 + 1 + 1 + 1 by omega]
  simp only [List.drop_succ_cons]
theorem nds_take_all (l : List ND) : (nds l).take (l.length * 4) = nds l := by rw [zif, List.take_length]
def growRes : Option (TR × List ND) → AV
 | none => .tup [.p (.v (.pointer none)), .p (.v (.slice none 0 0)), .p (.v (.bool false))]
 | some (t, rest) => .tup [.p (trP t), .p (ndsV rest), .p (.v (.bool true))]
section
variable {P : Program} {d : Option Tmp} {ty : TypeId} {pos : String} {af : Array Edge} {g : Option (Nat × Bool)} {x y : Operand} {xt yt e : TypeId}
theorem ziE {t : TR} (hu : P.underlying xt = some (.pointer e)) : AOp P ⟨d, .binOp .neq xt x y yt, ty, pos, af, g⟩ [.p (trP t), .p (.v (.pointer none))] [] [] (.p (.v (.bool (!t.isNil)))) := by
 cases t
 ·exact a_pneNN hu
 ·exact a_pnePN hu
theorem a_peqTR {t : TR} (hu : P.underlying xt = some (.pointer e)) : AOp P ⟨d, .binOp .eql xt x y yt, ty, pos, af, g⟩ [.p (trP t), .p (.v (.pointer none))] [] [] (.p (.v (.bool t.isNil))) := by
 cases t
 ·exact ziF hu
 ·exact a_peqPN hu
end
theorem grow_s : ∀ (n : Nat) (l : List ND), l.length ≤ n → (∀ x ∈ l, x.OK) → l.length ≤ 4611686018427387904 → Fn prog 137 [.p (ndsV l)] (growRes (zdk n l)) []
 | 0, l, hn, hok, hz => by
  obtain rfl := List.eq_nil_of_length_eq_zero (Nat.le_zero.1 hn)
  show Fn prog 137 [.p (.sl 0 4 [])] (.tup [.p (.v (.pointer none)), .p (.v (.slice none 0 0)), .p (.v (.bool false))]) []
  refine fnI fun w0 A => ?_
  refine G [11, 1, 25, 9, 0] ?_
  refine cX (fun h => ?_) fun h => ?_
  ·refine G [7, 9, 0] ?_
   exact yE
  ·cases h
 | n + 1, [], hn, hok, hz => by
  show Fn prog 137 [.p (.sl 0 4 [])] (.tup [.p (.v (.pointer none)), .p (.v (.slice none 0 0)), .p (.v (.bool false))]) []
  refine fnI fun w0 A => ?_
  refine G [11, 1, 25, 9, 0] ?_
  refine cX (fun h => ?_) fun h => ?_
  ·refine G [7, 9, 0] ?_
   exact yE
  ·cases h
 | n + 1, x :: l, hn, hok, hz => by
  have ih := grow_s n
  have hx := hok x (by simp)
  have hokl : ∀ y ∈ l, y.OK := fun y hy => hok y (by simp [hy])
  obtain ⟨a, b, o, s⟩ := x
  have hC := zfp a b hx.a0 hx.a1
  have hz' : l.length + 1 ≤ 4611686018427387904 := by simpa using hz
  have s0 := hx.s0
  have s1 := hx.s1
  simp only at s0 s1
  rw [zdk]
  show Fn prog 137 [.p (.sl (l.length + 1) 4 (.v (.int .u32 a) :: .v (.int .i64 b) :: .v (.string o) :: .v (.int .i64 s) :: nds l))] _ []
  obtain ⟨F, hF⟩ : ∃ F, F = zai a b := ⟨_, rfl⟩
  rw [← hF] at hC
  have hfz : (ND.fault ⟨a, b, o, s⟩) = F := hF.symm
  rw [hfz]
  refine fnI fun w0 A => ?_
  refine G [15] ?_
  refine jdz (zam fi90_2 rfl) ?_
  refine zaa (zaG U3 rfl (by first | rfl | assumption | ((try simp only [List.getElem?_drop, List.getElem?_take, Int.toNat_natCast, Nat.mul_one, Nat.add_zero, Nat.zero_add]); first | assumption | rfl))) rfl rfl ?_
  refine G [4] ?_
  refine mb2 _ rfl rfl (fun hb => (zaM U25 sz90 (by omega) (by omega) rfl)) (fun _ => trivial) ?_
  refine mb2 _ rfl rfl (fun hb => (zam fi90_2 rfl)) (fun _ => trivial) ?_
  refine mb2 _ rfl rfl (fun hb => (zaG U3 rfl (by first | rfl | assumption | ((try simp only [List.getElem?_drop, List.getElem?_take, Int.toNat_natCast, Nat.mul_one, Nat.add_zero, Nat.zero_add]); first | assumption | rfl)))) (fun _ => trivial) ?_
  refine mb2 _ rfl rfl (fun hb => (zav (r := .p _))) (fun _ => trivial) ?_
  refine mb2 _ rfl rfl (fun hb => (zdu U25)) (fun _ => trivial) ?_
  refine G [1, 2, 2] ?_
  refine mb2 _ rfl rfl (fun hb => (zaM U25 sz90 (by omega) (by omega) rfl)) (fun _ => trivial) ?_
  refine mb2 _ rfl rfl (fun hb => (zam fi90_0 rfl)) (fun _ => trivial) ?_
  refine mb2 _ rfl rfl (fun hb => (zaI U88 rfl sz88 (by first | omega | (simp; done) | (simp; omega)) (rfl))) (fun _ => trivial) ?_
  refine mb2 _ rfl rfl (fun _ => zbc func91 rfl rfl (hC) (by first | rfl | simp [AV.okInL, AV.okIn, zay]) rfl) (fun _ => trivial) ?_
  refine G [1, 2, 1, 9, 0] ?_
  refine cX (fun h => ?_) fun h => ?_
  ·have hc : s < 1 ∨ ((l.length + 1 : Nat) : Int) < s ∨ F ≠ 0 := by
    simp at h
    omega
   rw [if_pos hc]
   refine G [7, 9, 0] ?_
   exact yE
  have hc : ¬ (s < 1 ∨ ((l.length + 1 : Nat) : Int) < s ∨ F ≠ 0) := by
   simp at h
   omega
  clear h
  rw [if_neg hc]
  simp only [not_or, Int.not_lt] at hc
  obtain ⟨c1, c2, c3⟩ := hc
  replace c3 : F = 0 := Decidable.not_not.1 c3
  obtain ⟨q1, q2, q3⟩ := ND.keyed hx.a0 hx.a1 (hfz.trans c3)
  generalize ND.key ⟨a, b, o, s⟩ = p at q1 q2 q3 ⊢
  simp only at q2 q3
  subst q2
  subst q3
  obtain ⟨k, rfl⟩ : ∃ k : Nat, s = ((k + 1 : Nat) : Int) := ⟨(s - 1).toNat, by omega⟩
  have hk : k ≤ l.length := by omega
  clear hC hfz hF c3
  rw [show ((k + 1 : Nat) : Int).toNat - 1 = k by omega]
  obtain ⟨K, hK⟩ : ∃ K, K = zdV (zdk n) p (l.take k).length .nil .nil (l.take k) := ⟨_, rfl⟩
  rw [← hK]
  have hdl : (l.drop k).length = l.length - k := by simp
  have htl : (l.take k).length = k := by simp; omega
  have hnt : ((k + 1 : Nat) : Int).toNat - Int.toNat 1 = (l.take k).length := by rw [htl]; simp
  have hst : (nds l).take ((l.take k).length * 4) = nds (l.take k) := by rw [htl]; exact zif l k
  have hnn : l.length + 1 - ((k + 1 : Nat) : Int).toNat = (l.drop k).length := by simp
  have hsub : (List.drop (((k + 1 : Nat) : Int).toNat * 4) (nds (⟨zaA p, p.length, o, ((k + 1 : Nat) : Int)⟩ :: l))).take ((l.drop k).length * 4) = nds (l.drop k) := by
   rw [Int.toNat_natCast, zig, List.drop_succ_cons]; exact nds_take_all _
  refine G [5] ?_
  refine jdz (zam fi90_0 rfl) ?_
  refine zaa (zaI U88 rfl sz88 (by first | omega | (simp; done) | (simp; omega)) (rfl)) rfl rfl ?_
  refine G [2] ?_
  refine jdz (zam fi90_1 rfl) ?_
  refine zaa (zaG U9 rfl (by first | rfl | assumption | ((try simp only [List.getElem?_drop, List.getElem?_take, Int.toNat_natCast, Nat.mul_one, Nat.add_zero, Nat.zero_add]); first | assumption | rfl))) rfl rfl ?_
  refine G [9] ?_
  refine jdz (zam fi90_2 rfl) ?_
  refine zaa (zaG U3 rfl (by first | rfl | assumption | ((try simp only [List.getElem?_drop, List.getElem?_take, Int.toNat_natCast, Nat.mul_one, Nat.add_zero, Nat.zero_add]); first | assumption | rfl))) rfl rfl ?_
  refine zaa (ziD (L := (some (_, _))) (H := (some (_, _))) U25 sz90 ⟨by omega, rfl⟩ ⟨by omega, rfl⟩ (by omega) (by omega) hnt (by exact hst)) rfl rfl ?_
  refine G [3] ?_
  refine jdz (zam fi90_2 rfl) ?_
  refine zaa (zaG U3 rfl (by first | rfl | assumption | ((try simp only [List.getElem?_drop, List.getElem?_take, Int.toNat_natCast, Nat.mul_one, Nat.add_zero, Nat.zero_add]); first | assumption | rfl))) rfl rfl ?_
  refine zaa (ziD (L := (some (_, _))) (H := none) U25 sz90 ⟨by omega, rfl⟩ rfl (by omega) (by omega) hnn (by exact hsub)) rfl rfl ?_
  refine G [5] ?_
  refine zag (fun m st => ∃ (k0 k1 : TR) (mine : List ND), mine.length ≤ m ∧ mine.length ≤ l.length ∧ (∀ y ∈ mine, y.OK) ∧ zdV (zdk n) p m k0 k1 mine = K ∧ st = St.of [(5, .ref 48 0), (6, .p (ndsV mine)), (7, .p (ndsV (l.drop k)))] [(48, .box 204 [.p (.v (.int .u32 (zaA p))), .p (.v (.int .i64 p.length)), .p (.v (.string o)), .p (trP k0), .p (trP k1)])]) (l.take k).length ?_ ?_
  ·refine ⟨_, zah id _ _ ?_ ?_ rfl, .nil, .nil, l.take k, Nat.le_refl _, by omega, fun y hy => hokl y (List.mem_of_mem_take hy), hK.symm, rfl⟩
   ·exact ⟨⟨rfl, rfl⟩, ⟨rfl, rfl⟩, ⟨rfl, rfl⟩, trivial⟩
   ·exact ⟨⟨rfl, rfl⟩, trivial⟩
  rintro m st ⟨k0, k1, mine, hm, hmn, hmok, hmK, rfl⟩
  refine G [7, 9, 0] ?_
  refine cX (fun h => ?_) fun h => ?_
  ·have hpos : 0 < mine.length := by simp at h; omega
   clear h
   have hg := ih mine (by simp at hn; omega) hmok (by omega)
   obtain ⟨y, mine', rfl⟩ : ∃ y m', mine = y :: m' := by cases mine with | nil => simp at hpos | cons y m' => exact ⟨y, m', rfl⟩
   obtain ⟨m, rfl⟩ : ∃ m', m = m' + 1 := ⟨m - 1, by omega⟩
   simp only [zdV] at hmK
   cases hq : zdk n (y :: mine') with
   | none =>
    rw [hq] at hmK hg
    subst hmK
    replace hg : Fn prog 137 [.p (ndsV (y :: mine'))] (.tup [.p (.v (.pointer none)), .p (.v (.slice none 0 0)), .p (.v (.bool false))]) [] := hg
    refine G [5] ?_
    refine cK hg ?_
    refine G [26, 9, 0] ?_
    refine cX (fun h => ?_) fun h => ?_
    ·refine G [7, 9, 0] ?_
     exact yE
    ·cases h
   | some r =>
    obtain ⟨t', more⟩ := r
    obtain ⟨⟨gv, gs, gn⟩, gl⟩ := zdY hmok hq
    cases t' with
    | nil => exact absurd rfl gn
    | nd q o' ka kb =>
     rw [hq] at hmK hg
     simp only at hmK
     have gq := gs.1
     replace hg : Fn prog 137 [.p (ndsV (y :: mine'))] (.tup [.p (.pt [.v (.int .u32 (zaA q)), .v (.int .i64 q.length), .v (.string o'), trP ka, trP kb]), .p (ndsV more), .p (.v (.bool true))]) [] := hg
     have hB := below_s p q q1 gq
     refine G [5] ?_
     refine cK hg ?_
     refine G [8] ?_
     cases hbw : zeK p q with
     | false =>
      rw [hbw, if_neg (by simp)] at hmK
      rw [hbw] at hB
      subst hmK
      refine G [11] ?_
      refine jdz zbv ?_
      refine jdz (zam zcq rfl) ?_
      refine zaa (zaI U88 rfl sz88 (by first | omega | (simp; done) | (simp; omega)) (rfl)) rfl rfl ?_
      refine cV hB ?_
      refine G [3, 9, 0] ?_
      refine cX (fun h => ?_) fun h => ?_
      ·refine G [7, 9, 0] ?_
       exact yE
      ·cases h
     | true =>
     rw [hbw, if_pos rfl] at hmK
     rw [hbw] at hB
     have hbl : p.length < q.length := by unfold zeK at hbw; simp at hbw; exact hbw.1
     have hS := side_s p q hbl gq
     refine G [11] ?_
     refine jdz zbv ?_
     refine jdz (zam zcq rfl) ?_
     refine zaa (zaI U88 rfl sz88 (by first | omega | (simp; done) | (simp; omega)) (rfl)) rfl rfl ?_
     refine cV hB ?_
     refine G [3, 9, 0] ?_
     refine cX (fun h => ?_) fun h => ?_
     ·cases h
     have hml : more.length + 1 ≤ (y :: mine').length := by
      rw [gl, List.length_append, TR.list_nd]; simp only [List.length_cons]; omega
     have hmore : ∀ z ∈ more, z.OK := fun z hz => hmok z (by rw [gl]; exact List.mem_append.2 (.inr hz))
     cases hbit : zbK q p.length with
     | true =>
      rw [show bitN q p.length = 1 by unfold bitN; rw [hbit]; rfl] at hS
      rw [hbit, if_pos rfl] at hmK
      refine G [8] ?_
      refine jdz zbv ?_
      refine jdz (zam zcq rfl) ?_
      refine zaa (zaI U88 rfl sz88 (by first | omega | (simp; done) | (simp; omega)) (rfl)) rfl rfl ?_
      refine cV hS ?_
      refine G [9] ?_
      refine zaa (zaj U202 zdi (by omega) (by omega) (by first | (simp only [Int.toNat_natCast, Nat.mul_one, Nat.zero_add]; rfl) | rfl)) rfl rfl ?_
      refine l1 U154 rfl rfl rfl ⟨rfl, trivial⟩ ?_
      refine jdz (ziE U154) ?_
      refine mP rfl rfl ?_
      refine mb2 _ rfl rfl (fun hb => (zav (r := .ref _ _))) (fun _ => trivial) ?_
      refine mb2 _ rfl rfl (fun hb => zfx) (fun _ => trivial) ?_
      refine mb2 _ rfl rfl (fun hb => (zat zdf rfl)) (fun _ => trivial) ?_
      refine mb2 _ rfl rfl (fun hb => (zaj U202 zdi (by omega) (by omega) (by first | (simp only [Int.toNat_natCast, Nat.mul_one, Nat.zero_add]; rfl) | rfl))) (fun _ => trivial) ?_
      refine mb2 _ rfl rfl (fun hb => (zcs U154 rfl (by first | rfl | assumption))) (fun _ => ⟨rfl, trivial⟩) ?_
      refine mb2 _ rfl rfl (fun hb => ziE U154) (fun _ => trivial) ?_
      refine G [0, 2, 1, 9, 0] ?_
      refine cX (fun h => ?_) fun h => ?_
      ·have hk1 : k1.isNil = false := by simpa using h
       rw [if_neg (by simp [hk1])] at hmK
       subst hmK
       refine G [7, 9, 0] ?_
       exact yE
      ·have hk1 : k1.isNil = true := by simpa using h
       rw [if_pos hk1] at hmK
       refine G [8] ?_
       refine zaa (zaj U202 zdi (by omega) (by omega) (by first | (simp only [Int.toNat_natCast, Nat.mul_one, Nat.zero_add]; rfl) | rfl)) rfl rfl ?_
       refine G [3, 9, 0] ?_
       refine ⟨m, by omega, _, zah id _ _ ?_ ?_ rfl, k0, .nd q o' ka kb, more, by omega, by omega, hmore, hmK, rfl⟩
       ·exact ⟨⟨rfl, rfl⟩, ⟨rfl, rfl⟩, ⟨rfl, rfl⟩, trivial⟩
       ·exact ⟨⟨rfl, rfl⟩, trivial⟩
     | false =>
      rw [show bitN q p.length = 0 by unfold bitN; rw [hbit]; rfl] at hS
      rw [hbit, if_neg (by simp)] at hmK
      refine G [8] ?_
      refine jdz zbv ?_
      refine jdz (zam zcq rfl) ?_
      refine zaa (zaI U88 rfl sz88 (by first | omega | (simp; done) | (simp; omega)) (rfl)) rfl rfl ?_
      refine cV hS ?_
      refine G [9] ?_
      refine zaa (zaj U202 zdi (by omega) (by omega) (by first | (simp only [Int.toNat_natCast, Nat.mul_one, Nat.zero_add]; rfl) | rfl)) rfl rfl ?_
      refine l1 U154 rfl rfl rfl ⟨rfl, trivial⟩ ?_
      refine jdz (ziE U154) ?_
      refine mP rfl rfl ?_
      refine mb2 _ rfl rfl (fun hb => (zav (r := .ref _ _))) (fun _ => trivial) ?_
      refine mb2 _ rfl rfl (fun hb => zfx) (fun _ => trivial) ?_
      refine mb2 _ rfl rfl (fun hb => (zat zdf rfl)) (fun _ => trivial) ?_
      refine mb2 _ rfl rfl (fun hb => (zaj U202 zdi (by omega) (by omega) (by first | (simp only [Int.toNat_natCast, Nat.mul_one, Nat.zero_add]; rfl) | rfl))) (fun _ => trivial) ?_
      refine mb2 _ rfl rfl (fun hb => (zcs U154 rfl (by first | rfl | assumption))) (fun _ => ⟨rfl, trivial⟩) ?_
      refine mb2 _ rfl rfl (fun hb => ziE U154) (fun _ => trivial) ?_
      refine G [0, 2, 1, 9, 0] ?_
      refine cX (fun h => ?_) fun h => ?_
      ·have hk1 : ¬ (k0.isNil = true ∧ k1.isNil = true) := by
        intro hh
        simp [hh.1, hh.2] at h
       rw [if_neg hk1] at hmK
       subst hmK
       refine G [7, 9, 0] ?_
       exact yE
      ·have hk1 : k0.isNil = true ∧ k1.isNil = true := by simpa using h
       rw [if_pos hk1] at hmK
       refine G [8] ?_
       refine zaa (zaj U202 zdi (by omega) (by omega) (by first | (simp only [Int.toNat_natCast, Nat.mul_one, Nat.zero_add]; rfl) | rfl)) rfl rfl ?_
       refine G [3, 9, 0] ?_
       refine ⟨m, by omega, _, zah id _ _ ?_ ?_ rfl, .nd q o' ka kb, k1, more, by omega, by omega, hmore, hmK, rfl⟩
       ·exact ⟨⟨rfl, rfl⟩, ⟨rfl, rfl⟩, ⟨rfl, rfl⟩, trivial⟩
       ·exact ⟨⟨rfl, rfl⟩, trivial⟩
  have hnil : mine = [] := by
   cases mine with
   | nil => rfl
   | cons y m' => simp at h
  clear h
  subst hnil
  rw [zgV] at hmK
  subst hmK
  refine G [10] ?_
  refine mb2 _ rfl rfl (fun hb => (zav (r := .ref _ _))) (fun _ => trivial) ?_
  refine mb2 _ rfl rfl (fun hb => zfx) (fun _ => trivial) ?_
  refine mb2 _ rfl rfl (fun hb => (zat zdf rfl)) (fun _ => trivial) ?_
  refine mb2 _ rfl rfl (fun hb => (zaj U202 zdi (by omega) (by omega) (by first | (simp only [Int.toNat_natCast, Nat.mul_one, Nat.zero_add]; rfl) | rfl))) (fun _ => trivial) ?_
  refine mb2 _ rfl rfl (fun hb => (zcs U154 rfl (by first | rfl | assumption))) (fun _ => ⟨rfl, trivial⟩) ?_
  refine mb2 _ rfl rfl (fun hb => a_peqTR U154) (fun _ => trivial) ?_
  refine mb2 _ rfl rfl (fun hb => (zav (r := .p _))) (fun _ => trivial) ?_
  refine mb2 _ rfl rfl (fun hb => (zav (r := .ref _ _))) (fun _ => trivial) ?_
  refine mb2 _ rfl rfl (fun hb => zfx) (fun _ => trivial) ?_
  refine mb2 _ rfl rfl (fun hb => (zat zdf rfl)) (fun _ => trivial) ?_
  refine mb2 _ rfl rfl (fun hb => (zaj U202 zdi (by omega) (by omega) (by first | (simp only [Int.toNat_natCast, Nat.mul_one, Nat.zero_add]; rfl) | rfl))) (fun _ => trivial) ?_
  refine mb2 _ rfl rfl (fun hb => (zcs U154 rfl (by first | rfl | assumption))) (fun _ => ⟨rfl, trivial⟩) ?_
  refine mb2 _ rfl rfl (fun hb => a_peqTR U154) (fun _ => trivial) ?_
  refine r_mb3 _ rfl rfl (.mb _ _ _ _ (by first | exact id | simp_all) (.keep _ _ _ (.keep _ _ _ .nil))) (fun hb => (a_or (by first | exact id | (simp_all; done) | grind))) (fun _ => trivial) ?_
  refine G [0, 2, 1, 9, 0] ?_
  refine cX (fun h => ?_) fun h => ?_
  ·have hc : o = noOwn ∧ (k0.isNil = true ∨ k1.isNil = true) := by simpa using h
   rw [growTop_no hc]
   refine G [7, 9, 0] ?_
   exact yE
  ·have hc : ¬ (o = noOwn ∧ (k0.isNil = true ∨ k1.isNil = true)) := by
    intro hh
    simp [hh.1] at h
    rcases hh.2 with h' | h' <;> simp [h'] at h
   rw [zg7 hc]
   refine za2 (zd7 (cs := [.v (.int .u32 (zaA p)), .v (.int .i64 p.length), .v (.string o), trP k0, trP k1]) 48 rfl rfl) ?_
   refine G [10, 9, 0] ?_
   exact yE
end Go.Proofs.YtbjdjclkbjpebaaGreatDoor
