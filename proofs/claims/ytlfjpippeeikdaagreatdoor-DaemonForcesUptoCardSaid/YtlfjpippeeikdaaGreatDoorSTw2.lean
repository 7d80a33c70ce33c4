/- trie: nets, sides, growing a tree of a list. -/
import Derived.Test.YtlfjpippeeikdaaGreatDoorSFz
import Derived.Test.YtlfjpippeeikdaaGreatDoorSTrY
set_option linter.all false
namespace Go.Proofs.YtlfjpippeeikdaaGreatDoor
open Tryz
open Go.RowKit Go.Sort
set_option maxRecDepth 100000
set_option maxHeartbeats 16000000
theorem ziw (p q : Key) (hp : p.length ≤ 32) (hq : q.length ≤ 32) : Fn prog 110 [.agg (netA (zau p) p.length), .agg (netA (zau q) q.length)] (qf (decide (p <+: q))) [] := by
 have h := nHolds_s (zau p) p.length (zau q) q.length (zbk p hp).1 (zbk p hp).2 (zbk q hq).1 (zbk q hq).2
 rw [holds_pre p q hp hq] at h
 exact h
def bitN (q : Key) (i : Nat) : Nat := if zbH q i = true then 1 else 0
theorem bitN_le (q : Key) (i : Nat) : bitN q i ≤ 1 := by unfold bitN; split <;> omega
theorem side_bits (p q : Key) (h : p.length < q.length) (hq : q.length ≤ 32) : bits .and .u32 ((zau q).fdiv (2 ^ min (31 - (p.length : Int)).toNat IntKind.u32.bits)) 1 = (bitN q p.length : Nat) := by
 have hm : min (31 - (p.length : Int)).toNat IntKind.u32.bits = (31 - (p.length : Int)).toNat := Nat.min_eq_left (by simp only [IntKind.bits]; omega)
 obtain ⟨b0, b1⟩ := zbk q hq
 obtain ⟨s0, s1⟩ := shr_bd (zau q) (31 - (p.length : Int)).toNat b0 b1
 rw [hm, Int.fdiv_eq_ediv_of_nonneg _ (Int.le_of_lt (zcI _)), zgs _ s0 s1, bit_key q p.length hq h]
 unfold bitN; split <;> rfl
theorem side_s (p q : Key) (h : p.length < q.length) (hq : q.length ≤ 32) : Fn prog 111 [.agg (netA (zau p) p.length), .agg (netA (zau q) q.length)] (qd (bitN q p.length : Nat)) [] := by
 have hsb := side_bits p q h hq
 have hl := bitN_le q p.length
 generalize bitN q p.length = b at *
 refine fnI fun w0 A => ?_
 refine G [13] ?_
 refine zaa (a_shr qk rfl) rfl rfl ?_
 refine zaa (zgu qz hsb) rfl rfl ?_
 refine G [4, 9, 0] ?_
 exact yE
theorem below_s (p q : Key) (hp : p.length ≤ 32) (hq : q.length ≤ 32) : Fn prog 153 [.agg (netA (zau p) p.length), .agg (netA (zau q) q.length)] (qf (zeI p q)) [] := by
 have hH := ziw p q hp hq
 have e : zeI p q = (decide ((p.length : Int) < (q.length : Int)) && decide (p <+: q)) := by unfold zeI; congr 1; exact decide_eq_decide.2 qk
 rw [e]
 generalize decide (p <+: q) = c at *
 refine fnI fun w0 A => ?_
 refine G [14] ?_
 refine mb2 _ rfl rfl (fun hb => (zaf U82 rfl sz82 qo qt)) (fun _ => ⟨rfl, trivial⟩) ?_
 refine mb2 _ rfl rfl (fun hb => (zaf U82 rfl sz82 qo qt)) (fun _ => ⟨rfl, trivial⟩) ?_
 refine mb2 _ rfl rfl (fun _ => zbl func110 rfl rfl (hH) qr rfl) (fun _ => trivial) ?_
 refine G [0, 2, 3, 9, 0] ?_
 exact yE
def trP : TR → PV
 | .nil => .v (.pointer none)
 | .nd p o l r => .pt [.v (.int .u32 (zau p)), .v (.int .i64 p.length), .v (.string o), trP l, trP r]
def nds (l : List ND) : List PV := l.flatMap ND.pv
def ndsV (l : List ND) : PV := .sl l.length 4 (nds l)
theorem zdk (x : ND) (l : List ND) : nds (x :: l) = qi x.a :: qh x.n :: qg x.o :: qh x.s :: nds l := rfl
theorem zg7 (l r : List ND) : nds (l ++ r) = nds l ++ nds r := by simp [nds]
theorem zem : ∀ l : List ND, (nds l).length = l.length * 4
 | [] => rfl
 | x :: l => by rw [zdk]; simp only [qaO, zem l]; omega
theorem ziq : ∀ (l : List ND) (k : Nat), (nds l).take (k * 4) = nds (l.take k)
 | l, 0 => by simp [nds]
 | [], k + 1 => by simp [nds]
 | x :: l, k + 1 => by
  rw [zdk, qbt, zdk, ← ziq l k, show (k + 1) * 4 = k * 4 + 1 + 1 + 1 + 1 by omega]
  simp only [qbt]
theorem zir : ∀ (l : List ND) (k : Nat), (nds l).drop (k * 4) = nds (l.drop k)
 | l, 0 => by simp
 | [], k + 1 => by simp [nds]
 | x :: l, k + 1 => by
  rw [zdk, qbu, ← zir l k, show (k + 1) * 4 = k * 4 + 1 + 1 + 1 + 1 by omega]
  simp only [qbu]
theorem nds_take_all (l : List ND) : (nds l).take (l.length * 4) = nds l := by rw [ziq, qa5]
def growRes : Option (TR × List ND) → AV
 | none => .tup [.p (.v (.pointer none)), .p (.v (.slice none 0 0)), .p (.v (.bool false))]
 | some (t, rest) => .tup [.p (trP t), .p (ndsV rest), .p (.v (.bool true))]
section
variable {P : Program} {d : Option Tmp} {ty : TypeId} {pos : String} {af : Array Edge} {g : Option (Nat × Bool)} {x y : Operand} {xt yt e : TypeId}
theorem ziI {t : TR} (hu : P.underlying xt = some (.pointer e)) : AOp P ⟨d, .binOp .neq xt x y yt, ty, pos, af, g⟩ [.p (trP t), .p (.v (.pointer none))] [] [] (qf (!t.isNil)) := by
 cases t
 ·exact a_pneNN hu
 ·exact a_pnePN hu
theorem a_peqTR {t : TR} (hu : P.underlying xt = some (.pointer e)) : AOp P ⟨d, .binOp .eql xt x y yt, ty, pos, af, g⟩ [.p (trP t), .p (.v (.pointer none))] [] [] (qf t.isNil) := by
 cases t
 ·exact a_peqNN hu
 ·exact a_peqPN hu
end
theorem grow_s : ∀ (n : Nat) (l : List ND), l.length ≤ n → (∀ x ∈ l, x.OK) → l.length ≤ 4611686018427387904 → Fn prog 108 [.p (ndsV l)] (growRes (zdg n l)) []
 | 0, l, hn, hok, hz => by
  obtain rfl := qaQ (Nat.le_zero.1 hn)
  show Fn prog 108 [.p (.sl 0 4 [])] (.tup [.p (.v (.pointer none)), qj, qf false]) []
  refine fnI fun w0 A => ?_
  refine G [11, 1, 25, 9, 0] ?_
  refine cX ?_ ?_ <;> intro h
  ·refine G [7, 9, 0] ?_
   exact yE
  ·cases h
 | n + 1, [], hn, hok, hz => by
  show Fn prog 108 [.p (.sl 0 4 [])] (.tup [.p (.v (.pointer none)), qj, qf false]) []
  refine fnI fun w0 A => ?_
  refine G [11, 1, 25, 9, 0] ?_
  refine cX ?_ ?_ <;> intro h
  ·refine G [7, 9, 0] ?_
   exact yE
  ·cases h
 | n + 1, x :: l, hn, hok, hz => by
  have ih := grow_s n
  have hx := hok x qz
  have hokl : ∀ y ∈ l, y.OK := fun y hy => hok y qaw
  obtain ⟨a, b, o, s⟩ := x
  have hC := zcK a b hx.a0 hx.a1
  have hz' : l.length + 1 ≤ 4611686018427387904 := by simpa using hz
  have s0 := hx.s0
  have s1 := hx.s1
  simp only at s0 s1
  rw [zdg]
  show Fn prog 108 [.p (.sl (l.length + 1) 4 (qi a :: qh b :: qg o :: qh s :: nds l))] _ []
  obtain ⟨F, hF⟩ : ∃ F, F = zap a b := ⟨_, rfl⟩
  rw [← hF] at hC
  have hfz : (ND.fault ⟨a, b, o, s⟩) = F := hF.symm
  rw [hfz]
  refine fnI fun w0 A => ?_
  refine G [15] ?_
  refine jdY (zah fi84_2 rfl) ?_
  refine zaa (zaN U3 rfl qq) rfl rfl ?_
  refine G [4] ?_
  refine mb2 _ rfl rfl (fun hb => (za1 U25 sz84 qk qk rfl)) (fun _ => trivial) ?_
  refine mb2 _ rfl rfl (fun hb => (zah fi84_2 rfl)) (fun _ => trivial) ?_
  refine mb2 _ rfl rfl (fun hb => (zaN U3 rfl qq)) (fun _ => trivial) ?_
  refine mb2 _ rfl rfl (fun hb => (zaI (r := .p _))) (fun _ => trivial) ?_
  refine mb2 _ rfl rfl (fun hb => (zd7 U25)) (fun _ => trivial) ?_
  refine G [1, 2, 2] ?_
  refine mb2 _ rfl rfl (fun hb => (za1 U25 sz84 qk qk rfl)) (fun _ => trivial) ?_
  refine mb2 _ rfl rfl (fun hb => (zah fi84_0 rfl)) (fun _ => trivial) ?_
  refine mb2 _ rfl rfl (fun hb => (zam U82 rfl sz82 qB (rfl))) (fun _ => trivial) ?_
  refine mb2 _ rfl rfl (fun _ => zbl func75 rfl rfl (hC) qr rfl) (fun _ => trivial) ?_
  refine G [1, 2, 1, 9, 0] ?_
  refine cX ?_ ?_ <;> intro h
  ·have hc : s < 1 ∨ ((l.length + 1 : Nat) : Int) < s ∨ F ≠ 0 := by
    simp at h
    omega
   rw [if_pos hc]
   refine G [7, 9, 0] ?_
   exact yE
  have hc : ¬ (s < 1 ∨ ((l.length + 1 : Nat) : Int) < s ∨ F ≠ 0) := by
   simp at h
   omega
  clear h
  rw [if_neg hc]
  simp only [not_or, Int.not_lt] at hc
  obtain ⟨c1, c2, c3⟩ := hc
  replace c3 : F = 0 := qaH.1 c3
  obtain ⟨q1, q2, q3⟩ := ND.keyed hx.a0 hx.a1 (hfz.trans c3)
  generalize ND.key ⟨a, b, o, s⟩ = p at q1 q2 q3 ⊢
  simp only at q2 q3
  subst q2
  subst q3
  obtain ⟨k, rfl⟩ : ∃ k : Nat, s = ((k + 1 : Nat) : Int) := ⟨(s - 1).toNat, qk⟩
  have hk : k ≤ l.length := qk
  clear hC hfz hF c3
  rw [show ((k + 1 : Nat) : Int).toNat - 1 = k by omega]
  obtain ⟨K, hK⟩ : ∃ K, K = zdU (zdg n) p (l.take k).length .nil .nil (l.take k) := ⟨_, rfl⟩
  rw [← hK]
  have hdl : (l.drop k).length = l.length - k := qz
  have htl : (l.take k).length = k := by simp; omega
  have hnt : ((k + 1 : Nat) : Int).toNat - Int.toNat 1 = (l.take k).length := by rw [htl]; simp
  have hst : (nds l).take ((l.take k).length * 4) = nds (l.take k) := by rw [htl]; exact ziq l k
  have hnn : l.length + 1 - ((k + 1 : Nat) : Int).toNat = (l.drop k).length := qz
  have hsub : (List.drop (((k + 1 : Nat) : Int).toNat * 4) (nds (⟨zau p, p.length, o, ((k + 1 : Nat) : Int)⟩ :: l))).take ((l.drop k).length * 4) = nds (l.drop k) := by
   rw [qaS, zir, qbu]; exact nds_take_all _
  refine G [5] ?_
  refine jdY (zah fi84_0 rfl) ?_
  refine zaa (zam U82 rfl sz82 qB (rfl)) rfl rfl ?_
  refine G [2] ?_
  refine jdY (zah fi84_1 rfl) ?_
  refine zaa (zaN U9 rfl qq) rfl rfl ?_
  refine G [9] ?_
  refine jdY (zah fi84_2 rfl) ?_
  refine zaa (zaN U3 rfl qq) rfl rfl ?_
  refine zaa (zdn (L := (some (_, _))) (H := (some (_, _))) U25 sz84 ⟨qk, rfl⟩ ⟨qk, rfl⟩ qk qk hnt (by exact hst)) rfl rfl ?_
  refine G [3] ?_
  refine jdY (zah fi84_2 rfl) ?_
  refine zaa (zaN U3 rfl qq) rfl rfl ?_
  refine zaa (zdn (L := (some (_, _))) (H := none) U25 sz84 ⟨qk, rfl⟩ rfl qk qk hnn (by exact hsub)) rfl rfl ?_
  refine G [5] ?_
  refine zae (fun m st => ∃ (k0 k1 : TR) (mine : List ND), mine.length ≤ m ∧ mine.length ≤ l.length ∧ (∀ y ∈ mine, y.OK) ∧ zdU (zdg n) p m k0 k1 mine = K ∧ st = St.of [(5, .ref 48 0), (6, .p (ndsV mine)), (7, .p (ndsV (l.drop k)))] [(48, .box 164 [qe (zau p), qd p.length, qc o, .p (trP k0), .p (trP k1)])]) (l.take k).length ?_ ?_
  ·refine ⟨_, zad id _ _ ?_ ?_ rfl, .nil, .nil, l.take k, Nat.le_refl _, qk, fun y hy => hokl y (qbj hy), hK.symm, rfl⟩
   ·exact ⟨⟨rfl, rfl⟩, ⟨rfl, rfl⟩, ⟨rfl, rfl⟩, trivial⟩
   ·exact ⟨⟨rfl, rfl⟩, trivial⟩
  rintro m st ⟨k0, k1, mine, hm, hmn, hmok, hmK, rfl⟩
  refine G [7, 9, 0] ?_
  refine cX ?_ ?_ <;> intro h
  ·have hpos : 0 < mine.length := by simp at h; omega
   clear h
   have hg := ih mine (by simp at hn; omega) hmok qk
   obtain ⟨y, mine', rfl⟩ : ∃ y m', mine = y :: m' := by cases mine with | nil => simp at hpos | cons y m' => exact ⟨y, m', rfl⟩
   obtain ⟨m, rfl⟩ : ∃ m', m = m' + 1 := ⟨m - 1, qk⟩
   simp only [zdU] at hmK
   cases hq : zdg n (y :: mine') with
   | none =>
    rw [hq] at hmK hg
    subst hmK
    replace hg : Fn prog 108 [.p (ndsV (y :: mine'))] (.tup [.p (.v (.pointer none)), qj, qf false]) [] := hg
    refine G [5] ?_
    refine cK hg ?_
    refine G [26, 9, 0] ?_
    refine cX ?_ ?_ <;> intro h
    ·refine G [7, 9, 0] ?_
     exact yE
    ·cases h
   | some r =>
    obtain ⟨t', more⟩ := r
    obtain ⟨⟨gv, gs, gn⟩, gl⟩ := zdX hmok hq
    cases t' with
    | nil => exact absurd rfl gn
    | nd q o' ka kb =>
     rw [hq] at hmK hg
     simp only at hmK
     have gq := gs.1
     replace hg : Fn prog 108 [.p (ndsV (y :: mine'))] (.tup [.p (.pt [qi (zau q), qh q.length, qg o', trP ka, trP kb]), .p (ndsV more), qf true]) [] := hg
     have hB := below_s p q q1 gq
     refine G [5] ?_
     refine cK hg ?_
     refine G [8] ?_
     cases hbw : zeI p q with
     | false =>
      rw [hbw, if_neg (by simp)] at hmK
      rw [hbw] at hB
      subst hmK
      refine G [11] ?_
      refine jdY zbp ?_
      refine jdY (zah zck rfl) ?_
      refine zaa (zam U82 rfl sz82 qB (rfl)) rfl rfl ?_
      refine cV hB ?_
      refine G [3, 9, 0] ?_
      refine cX ?_ ?_ <;> intro h
      ·refine G [7, 9, 0] ?_
       exact yE
      ·cases h
     | true =>
     rw [hbw, if_pos rfl] at hmK
     rw [hbw] at hB
     have hbl : p.length < q.length := by unfold zeI at hbw; simp at hbw; exact hbw.1
     have hS := side_s p q hbl gq
     refine G [11] ?_
     refine jdY zbp ?_
     refine jdY (zah zck rfl) ?_
     refine zaa (zam U82 rfl sz82 qB (rfl)) rfl rfl ?_
     refine cV hB ?_
     refine G [3, 9, 0] ?_
     refine cX ?_ ?_ <;> intro h
     ·cases h
     have hml : more.length + 1 ≤ (y :: mine').length := by
      rw [gl, qaC, TR.list_nd]; simp only [qaO]; omega
     have hmore : ∀ z ∈ more, z.OK := fun z hz => hmok z (by rw [gl]; exact qaW.2 (.inr hz))
     cases hbit : zbH q p.length with
     | true =>
      rw [show bitN q p.length = 1 by unfold bitN; rw [hbit]; rfl] at hS
      rw [hbit, if_pos rfl] at hmK
      refine G [8] ?_
      refine jdY zbp ?_
      refine jdY (zah zck rfl) ?_
      refine zaa (zam U82 rfl sz82 qB (rfl)) rfl rfl ?_
      refine cV hS ?_
      refine G [9] ?_
      refine zaa (zaR U162 zdf qk qk qv) rfl rfl ?_
      refine l1 U121 rfl rfl rfl ⟨rfl, trivial⟩ ?_
      refine jdY (ziI U121) ?_
      refine mP rfl rfl ?_
      refine mb2 _ rfl rfl (fun hb => (zaI (r := .ref _ _))) (fun _ => trivial) ?_
      refine mb2 _ rfl rfl (fun hb => zfG) (fun _ => trivial) ?_
      refine mb2 _ rfl rfl (fun hb => (zar zda rfl)) (fun _ => trivial) ?_
      refine mb2 _ rfl rfl (fun hb => (zaR U162 zdf qk qk qv)) (fun _ => trivial) ?_
      refine mb2 _ rfl rfl (fun hb => (zbq U121 rfl qM)) (fun _ => ⟨rfl, trivial⟩) ?_
      refine mb2 _ rfl rfl (fun hb => ziI U121) (fun _ => trivial) ?_
      refine G [0, 2, 1, 9, 0] ?_
      refine cX ?_ ?_ <;> intro h
      ·have hk1 : k1.isNil = false := by simpa using h
       rw [if_neg (by simp [hk1])] at hmK
       subst hmK
       refine G [7, 9, 0] ?_
       exact yE
      ·have hk1 : k1.isNil = true := by simpa using h
       rw [if_pos hk1] at hmK
       refine G [8] ?_
       refine zaa (zaR U162 zdf qk qk qv) rfl rfl ?_
       refine G [3, 9, 0] ?_
       refine ⟨m, qk, _, zad id _ _ ?_ ?_ rfl, k0, .nd q o' ka kb, more, qk, qk, hmore, hmK, rfl⟩
       ·exact ⟨⟨rfl, rfl⟩, ⟨rfl, rfl⟩, ⟨rfl, rfl⟩, trivial⟩
       ·exact ⟨⟨rfl, rfl⟩, trivial⟩
     | false =>
      rw [show bitN q p.length = 0 by unfold bitN; rw [hbit]; rfl] at hS
      rw [hbit, if_neg (by simp)] at hmK
      refine G [8] ?_
      refine jdY zbp ?_
      refine jdY (zah zck rfl) ?_
      refine zaa (zam U82 rfl sz82 qB (rfl)) rfl rfl ?_
      refine cV hS ?_
      refine G [9] ?_
      refine zaa (zaR U162 zdf qk qk qv) rfl rfl ?_
      refine l1 U121 rfl rfl rfl ⟨rfl, trivial⟩ ?_
      refine jdY (ziI U121) ?_
      refine mP rfl rfl ?_
      refine mb2 _ rfl rfl (fun hb => (zaI (r := .ref _ _))) (fun _ => trivial) ?_
      refine mb2 _ rfl rfl (fun hb => zfG) (fun _ => trivial) ?_
      refine mb2 _ rfl rfl (fun hb => (zar zda rfl)) (fun _ => trivial) ?_
      refine mb2 _ rfl rfl (fun hb => (zaR U162 zdf qk qk qv)) (fun _ => trivial) ?_
      refine mb2 _ rfl rfl (fun hb => (zbq U121 rfl qM)) (fun _ => ⟨rfl, trivial⟩) ?_
      refine mb2 _ rfl rfl (fun hb => ziI U121) (fun _ => trivial) ?_
      refine G [0, 2, 1, 9, 0] ?_
      refine cX ?_ ?_ <;> intro h
      ·have hk1 : ¬ (k0.isNil = true ∧ k1.isNil = true) := by
        intro hh
        simp [hh.1, hh.2] at h
       rw [if_neg hk1] at hmK
       subst hmK
       refine G [7, 9, 0] ?_
       exact yE
      ·have hk1 : k0.isNil = true ∧ k1.isNil = true := by simpa using h
       rw [if_pos hk1] at hmK
       refine G [8] ?_
       refine zaa (zaR U162 zdf qk qk qv) rfl rfl ?_
       refine G [3, 9, 0] ?_
       refine ⟨m, qk, _, zad id _ _ ?_ ?_ rfl, .nd q o' ka kb, k1, more, qk, qk, hmore, hmK, rfl⟩
       ·exact ⟨⟨rfl, rfl⟩, ⟨rfl, rfl⟩, ⟨rfl, rfl⟩, trivial⟩
       ·exact ⟨⟨rfl, rfl⟩, trivial⟩
  have hnil : mine = [] := by
   cases mine with
   | nil => rfl
   | cons y m' => simp at h
  clear h
  subst hnil
  rw [zhd] at hmK
  subst hmK
  refine G [10] ?_
  refine mb2 _ rfl rfl (fun hb => (zaI (r := .ref _ _))) (fun _ => trivial) ?_
  refine mb2 _ rfl rfl (fun hb => zfG) (fun _ => trivial) ?_
  refine mb2 _ rfl rfl (fun hb => (zar zda rfl)) (fun _ => trivial) ?_
  refine mb2 _ rfl rfl (fun hb => (zaR U162 zdf qk qk qv)) (fun _ => trivial) ?_
  refine mb2 _ rfl rfl (fun hb => (zbq U121 rfl qM)) (fun _ => ⟨rfl, trivial⟩) ?_
  refine mb2 _ rfl rfl (fun hb => a_peqTR U121) (fun _ => trivial) ?_
  refine mb2 _ rfl rfl (fun hb => (zaI (r := .p _))) (fun _ => trivial) ?_
  refine mb2 _ rfl rfl (fun hb => (zaI (r := .ref _ _))) (fun _ => trivial) ?_
  refine mb2 _ rfl rfl (fun hb => zfG) (fun _ => trivial) ?_
  refine mb2 _ rfl rfl (fun hb => (zar zda rfl)) (fun _ => trivial) ?_
  refine mb2 _ rfl rfl (fun hb => (zaR U162 zdf qk qk qv)) (fun _ => trivial) ?_
  refine mb2 _ rfl rfl (fun hb => (zbq U121 rfl qM)) (fun _ => ⟨rfl, trivial⟩) ?_
  refine mb2 _ rfl rfl (fun hb => a_peqTR U121) (fun _ => trivial) ?_
  refine r_mb3 _ rfl rfl (.mb _ _ _ _ (by first | exact id | simp_all) (.keep _ _ _ (.keep _ _ _ .nil))) (fun hb => (a_or (by first | exact id | (simp_all; done) | grind))) (fun _ => trivial) ?_
  refine G [0, 2, 1, 9, 0] ?_
  refine cX ?_ ?_ <;> intro h
  ·have hc : o = noOwn ∧ (k0.isNil = true ∨ k1.isNil = true) := by simpa using h
   rw [growTop_no hc]
   refine G [7, 9, 0] ?_
   exact yE
  ·have hc : ¬ (o = noOwn ∧ (k0.isNil = true ∨ k1.isNil = true)) := by
    intro hh
    simp [hh.1] at h
    rcases hh.2 with h' | h' <;> simp [h'] at h
   rw [zhl hc]
   refine zaZ (zeg (cs := [qi (zau p), qh p.length, qg o, trP k0, trP k1]) 48 rfl rfl) ?_
   refine G [10, 9, 0] ?_
   exact yE
end Go.Proofs.YtlfjpippeeikdaaGreatDoor
