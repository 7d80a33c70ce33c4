/- trie: growing a tree of a list. -/
import Derived.Test.YtgpleldhddpcgaaGreatDoorSTw1
namespace Go.Proofs.YtgpleldhddpcgaaGreatDoor
open Go.RowKit Go.Sort
set_option linter.unusedVariables false
set_option linter.unusedSimpArgs false
set_option maxRecDepth 100000
/-- a tree as the data that it is -/
def trP : TR → PV
 | .nil => .v (.pointer none)
 | .nd p o l r => .pt [.v (.int .u32 (zaT p)), .v (.int .i64 p.length), .v (.string o), trP l, trP r]
def nds (l : List ND) : List PV := l.flatMap ND.pv
def ndsV (l : List ND) : PV := .sl l.length 4 (nds l)
theorem zc2 (x : ND) (l : List ND) : nds (x :: l) = .v (.int .u32 x.a) :: .v (.int .i64 x.n) :: .v (.string x.o) :: .v (.int .i64 x.s) :: nds l := rfl
theorem zga (l r : List ND) : nds (l ++ r) = nds l ++ nds r := by simp [nds]
theorem zdY : ∀ l : List ND, (nds l).length = l.length * 4
 | [] => rfl
 | x :: l => by rw [zc2]; simp only [List.length_cons, zdY l]; omega
theorem zhd : ∀ (l : List ND) (k : Nat), (nds l).take (k * 4) = nds (l.take k)
 | l, 0 => by simp [nds]
 | [], k + 1 => by simp [nds]
 | x :: l, k + 1 => by
  rw [zc2, List.take_succ_cons, zc2, ← zhd l k, show (k + 1) * 4 = k * 4 + 1 + 1 + 1 + 1 by omega]
  simp only [List.take_succ_cons]
theorem zhe : ∀ (l : List ND) (k : Nat), (nds l).drop (k * 4) = nds (l.drop k)
 | l, 0 => by simp
 | [], k + 1 => by simp [nds]
 | x :: l, k + 1 => by
  rw [zc2, List.drop_succ_cons, ← zhe l k, show (k + 1) * 4 = k * 4 + 1 + 1 + 1 + 1 by omega]
  simp only [List.drop_succ_cons]
theorem nds_take_all (l : List ND) : (nds l).take (l.length * 4) = nds l := by rw [zhd, List.take_length]
def growRes : Option (TR × List ND) → AV
 | none => .tup [.p (.v (.pointer none)), .p (.v (.slice none 0 0)), .p (.v (.bool false))]
 | some (t, rest) => .tup [.p (trP t), .p (ndsV rest), .p (.v (.bool true))]
section
variable {P : Program} {d : Option Tmp} {ty : TypeId} {pos : String} {af : Array Edge} {g : Option (Nat × Bool)} {x y : Operand} {xt yt e : TypeId}
theorem zhu {t : TR} (hu : P.underlying xt = some (.pointer e)) : AOp P ⟨d, .binOp .neq xt x y yt, ty, pos, af, g⟩ [.p (trP t), .p (.v (.pointer none))] [] [] (.p (.v (.bool (!t.isNil)))) := by
 cases t
 ·exact a_pneNN hu
 ·exact a_pnePN hu
theorem a_peqTR {t : TR} (hu : P.underlying xt = some (.pointer e)) : AOp P ⟨d, .binOp .eql xt x y yt, ty, pos, af, g⟩ [.p (trP t), .p (.v (.pointer none))] [] [] (.p (.v (.bool t.isNil))) := by
 cases t
 ·exact a_peqNN hu
 ·exact a_peqPN hu
end
set_option maxHeartbeats 4000000 in
theorem grow_s : ∀ (n : Nat) (l : List ND), l.length ≤ n → (∀ x ∈ l, x.OK) → l.length ≤ 4611686018427387904 → Fn Tryz.prog 96 [.p (ndsV l)] (growRes (zcW n l)) []
 | 0, l, hn, hok, hz => by
  obtain rfl := List.eq_nil_of_length_eq_zero (Nat.le_zero.1 hn)
  show Fn Tryz.prog 96 [.p (.sl 0 4 [])] (.tup [.p (.v (.pointer none)), .p (.v (.slice none 0 0)), .p (.v (.bool false))]) []
  refine zap Tryz.func96 rfl (Nat.le_of_ble_eq_true rfl) fun w0 A => ?_
  refine zaa ?_
  refine tx ?_
  refine yA ?_
  refine yA ?_
  refine yA ?_
  refine zab ?_
  refine zaa (zaa ?_)
  refine tx ?_
  refine yM ?_
  refine yP (zaC Tryz.underlying25) ?_
  refine yP zb6 ?_
  refine yM ?_
  refine yS ?_
  refine yS ?_
  refine yS ?_
  refine yS ?_
  refine yS ?_
  refine yP zak ?_
  refine yM ?_
  refine yS ?_
  refine yS ?_
  refine yS ?_
  refine yS ?_
  refine yS ?_
  refine yS ?_
  refine yS ?_
  refine yP zak ?_
  refine yM ?_
  refine yS ?_
  refine yS ?_
  refine yS ?_
  refine yS ?_
  refine yS ?_
  refine yS ?_
  refine yP zak ?_
  refine zab ?_
  refine zae ?_
  refine zah _ rfl (fun h => ?_) (fun h => ?_)
  ·refine zaa ?_
   refine tx ?_
   refine yA ?_
   refine yA ?_
   refine yA ?_
   refine zab ?_
   refine zaf (zam ?_)
   refine fT (fun o => o) (.tmp _ _ _ _ rfl (.tmp _ _ _ _ rfl (.tmp _ _ _ _ rfl .nil))) ?_ ?_
   ·exact rfl
   ·exact trivial
  ·cases h
 | n + 1, [], hn, hok, hz => by
  show Fn Tryz.prog 96 [.p (.sl 0 4 [])] (.tup [.p (.v (.pointer none)), .p (.v (.slice none 0 0)), .p (.v (.bool false))]) []
  refine zap Tryz.func96 rfl (Nat.le_of_ble_eq_true rfl) fun w0 A => ?_
  refine zaa ?_
  refine tx ?_
  refine yA ?_
  refine yA ?_
  refine yA ?_
  refine zab ?_
  refine zaa (zaa ?_)
  refine tx ?_
  refine yM ?_
  refine yP (zaC Tryz.underlying25) ?_
  refine yP zb6 ?_
  refine yM ?_
  refine yS ?_
  refine yS ?_
  refine yS ?_
  refine yS ?_
  refine yS ?_
  refine yP zak ?_
  refine yM ?_
  refine yS ?_
  refine yS ?_
  refine yS ?_
  refine yS ?_
  refine yS ?_
  refine yS ?_
  refine yS ?_
  refine yP zak ?_
  refine yM ?_
  refine yS ?_
  refine yS ?_
  refine yS ?_
  refine yS ?_
  refine yS ?_
  refine yS ?_
  refine yP zak ?_
  refine zab ?_
  refine zae ?_
  refine zah _ rfl (fun h => ?_) (fun h => ?_)
  ·refine zaa ?_
   refine tx ?_
   refine yA ?_
   refine yA ?_
   refine yA ?_
   refine zab ?_
   refine zaf (zam ?_)
   refine fT (fun o => o) (.tmp _ _ _ _ rfl (.tmp _ _ _ _ rfl (.tmp _ _ _ _ rfl .nil))) ?_ ?_
   ·exact rfl
   ·exact trivial
  ·cases h
 | n + 1, x :: l, hn, hok, hz => by
  have ih := grow_s n
  have hx := hok x (by simp)
  have hokl : ∀ y ∈ l, y.OK := fun y hy => hok y (by simp [hy])
  obtain ⟨a, b, o, s⟩ := x
  have hC := ze2 a b hx.a0 hx.a1
  have hz' : l.length + 1 ≤ 4611686018427387904 := by simpa using hz
  have s0 := hx.s0
  have s1 := hx.s1
  simp only at s0 s1
  rw [zcW]
  show Fn Tryz.prog 96 [.p (.sl (l.length + 1) 4 (.v (.int .u32 a) :: .v (.int .i64 b) :: .v (.string o) :: .v (.int .i64 s) :: nds l))] _ []
  obtain ⟨F, hF⟩ : ∃ F, F = zax a b := ⟨_, rfl⟩
  rw [← hF] at hC
  have hfz : (ND.fault ⟨a, b, o, s⟩) = F := hF.symm
  rw [hfz]
  refine zap Tryz.func96 rfl (Nat.le_of_ble_eq_true rfl) fun w0 A => ?_
  refine zaa ?_
  refine tx ?_
  refine yA ?_
  refine yA ?_
  refine yA ?_
  refine zab ?_
  refine zaa (zaa ?_)
  refine tx ?_
  refine yM ?_
  refine yP (zaC Tryz.underlying25) ?_
  refine yP zaF ?_
  refine yM ?_
  refine yM ?_
  refine zac (zao Tryz.underlying25 sz55 (by omega) (by omega) rfl) rfl rfl ?_
  refine yP (zaH zgR rfl) ?_
  refine zac (zbx Tryz.underlying3 rfl (by first | rfl | assumption | ((try simp only [List.getElem?_drop, List.getElem?_take, Int.toNat_natCast, Nat.mul_one, Nat.add_zero, Nat.zero_add]); first | assumption | rfl))) rfl rfl ?_
  refine yP zaX ?_
  refine yP zai ?_
  refine yM ?_
  refine mb2 _ rfl rfl (fun hb => (zaq (r := .p _))) (fun _ => trivial) ?_
  refine mb2 _ rfl rfl (fun hb => (zao Tryz.underlying25 sz55 (by omega) (by omega) rfl)) (fun _ => trivial) ?_
  refine mb2 _ rfl rfl (fun hb => (zaH zgR rfl)) (fun _ => trivial) ?_
  refine mb2 _ rfl rfl (fun hb => (zbx Tryz.underlying3 rfl (by first | rfl | assumption | ((try simp only [List.getElem?_drop, List.getElem?_take, Int.toNat_natCast, Nat.mul_one, Nat.add_zero, Nat.zero_add]); first | assumption | rfl)))) (fun _ => trivial) ?_
  refine mb2 _ rfl rfl (fun hb => (zaq (r := .p _))) (fun _ => trivial) ?_
  refine mb2 _ rfl rfl (fun hb => (zaC Tryz.underlying25)) (fun _ => trivial) ?_
  refine mb2 _ rfl rfl (fun hb => za5) (fun _ => trivial) ?_
  refine zac (a_or (by first | exact id | (simp; done) | grind)) rfl rfl ?_
  refine yM ?_
  refine mb2 _ rfl rfl (fun hb => (zaq (r := .p _))) (fun _ => trivial) ?_
  refine mb2 _ rfl rfl (fun hb => (zao Tryz.underlying25 sz55 (by omega) (by omega) rfl)) (fun _ => trivial) ?_
  refine mb2 _ rfl rfl (fun hb => (zaH zer rfl)) (fun _ => trivial) ?_
  refine mb2 _ rfl rfl (fun hb => (zaz Tryz.underlying52 rfl sz52 (by first | omega | (simp; done) | (simp; omega)) (rfl))) (fun _ => trivial) ?_
  refine mb2 _ rfl rfl (fun _ => zbd Tryz.func57 rfl rfl (hC) (by first | rfl | simp [AV.okInL, AV.okIn, zaZ]) rfl) (fun _ => trivial) ?_
  refine mb2 _ rfl rfl (fun hb => za8) (fun _ => trivial) ?_
  refine zac (a_or (by first | exact id | (simp; done) | grind)) rfl rfl ?_
  refine zab ?_
  refine zae ?_
  refine zah _ rfl (fun h => ?_) (fun h => ?_)
  ·have hc : s < 1 ∨ ((l.length + 1 : Nat) : Int) < s ∨ F ≠ 0 := by
    simp at h
    omega
   rw [if_pos hc]
   refine zaa ?_
   refine tx ?_
   refine yA ?_
   refine yA ?_
   refine yA ?_
   refine zab ?_
   refine zaf (zam ?_)
   refine fT (fun o => o) (.tmp _ _ _ _ rfl (.tmp _ _ _ _ rfl (.tmp _ _ _ _ rfl .nil))) ?_ ?_
   ·exact rfl
   ·exact trivial
  have hc : ¬ (s < 1 ∨ ((l.length + 1 : Nat) : Int) < s ∨ F ≠ 0) := by
   simp at h
   omega
  clear h
  rw [if_neg hc]
  simp only [not_or, Int.not_lt] at hc
  obtain ⟨c1, c2, c3⟩ := hc
  replace c3 : F = 0 := Decidable.not_not.1 c3
  obtain ⟨q1, q2, q3⟩ := ND.keyed hx.a0 hx.a1 (hfz.trans c3)
  generalize ND.key ⟨a, b, o, s⟩ = p at q1 q2 q3 ⊢
  simp only at q2 q3
  subst q2
  subst q3
  obtain ⟨k, rfl⟩ : ∃ k : Nat, s = ((k + 1 : Nat) : Int) := ⟨(s - 1).toNat, by omega⟩
  have hk : k ≤ l.length := by omega
  clear hC hfz hF c3
  rw [show ((k + 1 : Nat) : Int).toNat - 1 = k by omega]
  obtain ⟨K, hK⟩ : ∃ K, K = zdx (zcW n) p (l.take k).length .nil .nil (l.take k) := ⟨_, rfl⟩
  rw [← hK]
  have hdl : (l.drop k).length = l.length - k := by simp
  have htl : (l.take k).length = k := by simp; omega
  have hnt : ((k + 1 : Nat) : Int).toNat - Int.toNat 1 = (l.take k).length := by rw [htl]; simp
  have hst : (nds l).take ((l.take k).length * 4) = nds (l.take k) := by rw [htl]; exact zhd l k
  have hnn : l.length + 1 - ((k + 1 : Nat) : Int).toNat = (l.drop k).length := by simp
  have hsub : (List.drop (((k + 1 : Nat) : Int).toNat * 4) (nds (⟨zaT p, p.length, o, ((k + 1 : Nat) : Int)⟩ :: l))).take ((l.drop k).length * 4) = nds (l.drop k) := by
   rw [Int.toNat_natCast, zhe, List.drop_succ_cons]; exact nds_take_all _
  refine zad (zaa ?_)
  refine zav 4 (by kernel_rfl) ?_
  refine yM ?_
  refine zac (zao Tryz.underlying25 sz55 (by omega) (by omega) rfl) rfl rfl ?_
  refine yP (zaH zer rfl) ?_
  refine zac (zaz Tryz.underlying52 rfl sz52 (by first | omega | (simp; done) | (simp; omega)) (rfl)) rfl rfl ?_
  refine yM ?_
  refine zac (zao Tryz.underlying25 sz55 (by omega) (by omega) rfl) rfl rfl ?_
  refine yP (zaH fi55_1 rfl) ?_
  refine zac (zbx Tryz.underlying9 rfl (by first | rfl | assumption | ((try simp only [List.getElem?_drop, List.getElem?_take, Int.toNat_natCast, Nat.mul_one, Nat.add_zero, Nat.zero_add]); first | assumption | rfl))) rfl rfl ?_
  refine yP (zaR pl146 zr146 rfl rfl) ?_
  refine zal (za2 (X := .agg _) 48 rfl) rfl rfl ⟨rfl, trivial⟩ ?_
  refine yP (zas (r := .ref _ _)) ?_
  refine zab ⟨by kernel_rfl, ?_⟩
  refine zaa ?_
  refine zav 4 (by kernel_rfl) ?_
  refine yM ?_
  refine yM ?_
  refine zac (zao Tryz.underlying25 sz55 (by omega) (by omega) rfl) rfl rfl ?_
  refine yP (zaH zgR rfl) ?_
  refine zac (zbx Tryz.underlying3 rfl (by first | rfl | assumption | ((try simp only [List.getElem?_drop, List.getElem?_take, Int.toNat_natCast, Nat.mul_one, Nat.add_zero, Nat.zero_add]); first | assumption | rfl))) rfl rfl ?_
  refine zac (a_sliceS (L := (some (_, _))) (H := (some (_, _))) Tryz.underlying25 sz55 ⟨by omega, rfl⟩ ⟨by omega, rfl⟩ (by omega) (by omega) hnt (by exact hst)) rfl rfl ?_
  refine yM ?_
  refine yM ?_
  refine zac (zao Tryz.underlying25 sz55 (by omega) (by omega) rfl) rfl rfl ?_
  refine yP (zaH zgR rfl) ?_
  refine zac (zbx Tryz.underlying3 rfl (by first | rfl | assumption | ((try simp only [List.getElem?_drop, List.getElem?_take, Int.toNat_natCast, Nat.mul_one, Nat.add_zero, Nat.zero_add]); first | assumption | rfl))) rfl rfl ?_
  refine zac (a_sliceS (L := (some (_, _))) (H := none) Tryz.underlying25 sz55 ⟨by omega, rfl⟩ rfl (by omega) (by omega) hnn (by exact hsub)) rfl rfl ?_
  refine yA ?_
  refine yA ?_
  refine zab ⟨by kernel_rfl, ?_⟩
  refine zaa (zaj ?_)
  refine zaE (fun m st => ∃ (k0 k1 : TR) (mine : List ND), mine.length ≤ m ∧ mine.length ≤ l.length ∧ (∀ y ∈ mine, y.OK) ∧ zdx (zcW n) p m k0 k1 mine = K ∧ st = St.of [(5, .ref 48 0), (6, .p (ndsV mine)), (7, .p (ndsV (l.drop k)))] [(48, .box 146 [.p (.v (.int .u32 (zaT p))), .p (.v (.int .i64 p.length)), .p (.v (.string o)), .p (trP k0), .p (trP k1)])]) (l.take k).length ?_ ?_
  ·refine ⟨_, zaJ id _ _ ?_ ?_ rfl, .nil, .nil, l.take k, Nat.le_refl _, by omega, fun y hy => hokl y (List.mem_of_mem_take hy), hK.symm, rfl⟩
   ·exact ⟨⟨rfl, rfl⟩, ⟨rfl, rfl⟩, ⟨rfl, rfl⟩, trivial⟩
   ·exact ⟨⟨rfl, rfl⟩, trivial⟩
  rintro m st ⟨k0, k1, mine, hm, hmn, hmok, hmK, rfl⟩
  refine zaa (zaa ?_)
  refine tx ?_
  refine yM ?_
  refine yP (zaC Tryz.underlying25) ?_
  refine yP za5 ?_
  refine zab ?_
  refine zae ?_
  refine zah _ rfl (fun h => ?_) (fun h => ?_)
  ·have hpos : 0 < mine.length := by simp at h; omega
   clear h
   have hg := ih mine (by simp at hn; omega) hmok (by omega)
   obtain ⟨y, mine', rfl⟩ : ∃ y m', mine = y :: m' := by cases mine with | nil => simp at hpos | cons y m' => exact ⟨y, m', rfl⟩
   obtain ⟨m, rfl⟩ : ∃ m', m = m' + 1 := ⟨m - 1, by omega⟩
   simp only [zdx] at hmK
   cases hq : zcW n (y :: mine') with
   | none =>
    rw [hq] at hmK hg
    subst hmK
    replace hg : Fn Tryz.prog 96 [.p (ndsV (y :: mine'))] (.tup [.p (.v (.pointer none)), .p (.v (.slice none 0 0)), .p (.v (.bool false))]) [] := hg
    refine zad (zaj (zaa ?_))
    refine tx ?_
    refine yM ?_
    refine cS (fun n => 66 + 1000 * n) (hg) Tryz.func96 ?_
    refine yP (zaq (r := .tup _)) ?_
    refine yP (zar rfl) ?_
    refine yP (zar rfl) ?_
    refine yP (zar rfl) ?_
    refine yA ?_
    refine yA ?_
    refine yA ?_
    refine zab ?_
    refine zaa (zaa ?_)
    refine zav 4 (by kernel_rfl) ?_
    refine yM ?_
    refine yP za0 ?_
    refine yM ?_
    refine yS ?_
    refine yS ?_
    refine yS ?_
    refine yS ?_
    refine yS ?_
    refine yS ?_
    refine yS ?_
    refine yS ?_
    refine yS ?_
    refine yS ?_
    refine yP zak ?_
    refine zab ⟨by kernel_rfl, ?_⟩
    refine zae ?_
    refine zah _ rfl (fun h => ?_) (fun h => ?_)
    ·refine zaa ?_
     refine tx ?_
     refine yA ?_
     refine yA ?_
     refine yA ?_
     refine zab ?_
     refine zaf (zam (zaK (zam (zaK (zam ?_)))))
     refine fT (fun o => o) (.tmp _ _ _ _ rfl (.tmp _ _ _ _ rfl (.tmp _ _ _ _ rfl .nil))) ?_ ?_
     ·exact rfl
     ·exact trivial
    ·cases h
   | some r =>
    obtain ⟨t', more⟩ := r
    obtain ⟨⟨gv, gs, gn⟩, gl⟩ := zdA hmok hq
    cases t' with
    | nil => exact absurd rfl gn
    | nd q o' ka kb =>
     rw [hq] at hmK hg
     simp only at hmK
     have gq := gs.1
     replace hg : Fn Tryz.prog 96 [.p (ndsV (y :: mine'))] (.tup [.p (.pt [.v (.int .u32 (zaT q)), .v (.int .i64 q.length), .v (.string o'), trP ka, trP kb]), .p (ndsV more), .p (.v (.bool true))]) [] := hg
     have hB := below_s p q q1 gq
     refine zad (zaj (zaa ?_))
     refine tx ?_
     refine yM ?_
     refine cS (fun n => 66 + 1000 * n) (hg) Tryz.func96 ?_
     refine yP (zaq (r := .tup _)) ?_
     refine yP (zar rfl) ?_
     refine yP (zar rfl) ?_
     refine yP (zar rfl) ?_
     refine yA ?_
     refine yA ?_
     refine yA ?_
     refine zab ?_
     cases hbw : zet p q with
     | false =>
      rw [hbw, if_neg (by simp)] at hmK
      rw [hbw] at hB
      subst hmK
      refine zaa (zaa ?_)
      refine zav 4 (by kernel_rfl) ?_
      refine yM ?_
      refine yP za0 ?_
      refine yM ?_
      refine yP (zaq (r := .ref _ _)) ?_
      refine yP zbk ?_
      refine yF zbB ?_
      refine lN Tryz.underlying52 rfl sz52 rfl rfl ⟨rfl, trivial⟩ ?_
      refine yM ?_
      refine yP zbC ?_
      refine yP (zaH zbB rfl) ?_
      refine zac (zaz Tryz.underlying52 rfl sz52 (by first | omega | (simp; done) | (simp; omega)) (rfl)) rfl rfl ?_
      refine yV (fun n => 81 + 1000 * n) (hB) Tryz.func142 ?_
      refine yP za0 ?_
      refine yP zai ?_
      refine zab ⟨by kernel_rfl, ?_⟩
      refine zae ?_
      refine zah _ rfl (fun h => ?_) (fun h => ?_)
      ·refine zaa ?_
       refine tx ?_
       refine yA ?_
       refine yA ?_
       refine yA ?_
       refine zab ?_
       refine zaf (zam (zaK (zam (zaK (zam ?_)))))
       refine fT (fun o => o) (.tmp _ _ _ _ rfl (.tmp _ _ _ _ rfl (.tmp _ _ _ _ rfl .nil))) ?_ ?_
       ·exact rfl
       ·exact trivial
      ·cases h
     | true =>
     rw [hbw, if_pos rfl] at hmK
     rw [hbw] at hB
     have hbl : p.length < q.length := by unfold zet at hbw; simp at hbw; exact hbw.1
     have hS := side_s p q hbl gq
     refine zaa (zaa ?_)
     refine zav 4 (by kernel_rfl) ?_
     refine yM ?_
     refine yP za0 ?_
     refine yM ?_
     refine yP (zaq (r := .ref _ _)) ?_
     refine yP zbk ?_
     refine yF zbB ?_
     refine lN Tryz.underlying52 rfl sz52 rfl rfl ⟨rfl, trivial⟩ ?_
     refine yM ?_
     refine yP zbC ?_
     refine yP (zaH zbB rfl) ?_
     refine zac (zaz Tryz.underlying52 rfl sz52 (by first | omega | (simp; done) | (simp; omega)) (rfl)) rfl rfl ?_
     refine yV (fun n => 81 + 1000 * n) (hB) Tryz.func142 ?_
     refine yP za0 ?_
     refine yP zai ?_
     refine zab ⟨by kernel_rfl, ?_⟩
     refine zae ?_
     refine zah _ rfl (fun h => ?_) (fun h => ?_)
     ·cases h
     have hml : more.length + 1 ≤ (y :: mine').length := by
      rw [gl, List.length_append, TR.list_nd]; simp only [List.length_cons]; omega
     have hmore : ∀ z ∈ more, z.OK := fun z hz => hmok z (by rw [gl]; exact List.mem_append.2 (.inr hz))
     cases hbit : zbV q p.length with
     | true =>
      rw [show bitN q p.length = 1 by unfold bitN; rw [hbit]; rfl] at hS
      rw [hbit, if_pos rfl] at hmK
      refine zad (zaa ?_)
      refine zav 4 (by kernel_rfl) ?_
      refine yP (zaq (r := .ref _ _)) ?_
      refine yP zbk ?_
      refine yF zbB ?_
      refine lN Tryz.underlying52 rfl sz52 rfl rfl ⟨rfl, trivial⟩ ?_
      refine yM ?_
      refine yP zbC ?_
      refine yP (zaH zbB rfl) ?_
      refine zac (zaz Tryz.underlying52 rfl sz52 (by first | omega | (simp; done) | (simp; omega)) (rfl)) rfl rfl ?_
      refine yV (fun n => 92 + 1000 * n) (hS) Tryz.func99 ?_
      refine yA ?_
      refine zab ⟨by kernel_rfl, ?_⟩
      refine zaa (zaa ?_)
      refine tx ?_
      refine yP (zaq (r := .ref _ _)) ?_
      refine yM ?_
      refine yP zbk ?_
      refine yF zbH ?_
      refine zac (za6 Tryz.underlying144 zcc (by omega) (by omega) (by first | (simp only [Int.toNat_natCast, Nat.mul_one, Nat.zero_add]; rfl) | rfl)) rfl rfl ?_
      refine yL Tryz.underlying100 ?_
      refine yP (zhu Tryz.underlying100) ?_
      refine yM ?_
      refine mb2 _ rfl rfl (fun hb => (zaq (r := .ref _ _))) (fun _ => trivial) ?_
      refine mb2 _ rfl rfl (fun hb => zbk) (fun _ => trivial) ?_
      refine mb2 _ rfl rfl (fun hb => (zag zbH rfl)) (fun _ => trivial) ?_
      refine mb2 _ rfl rfl (fun hb => (za6 Tryz.underlying144 zcc (by omega) (by omega) (by first | (simp only [Int.toNat_natCast, Nat.mul_one, Nat.zero_add]; rfl) | rfl))) (fun _ => trivial) ?_
      refine mb2 _ rfl rfl (fun hb => (zat Tryz.underlying100 rfl (by first | rfl | assumption))) (fun _ => ⟨rfl, trivial⟩) ?_
      refine mb2 _ rfl rfl (fun hb => zhu Tryz.underlying100) (fun _ => trivial) ?_
      refine zac (a_or (by first | exact id | (simp; done) | grind)) rfl rfl ?_
      refine zab ?_
      refine zae ?_
      refine zah _ rfl (fun h => ?_) (fun h => ?_)
      ·have hk1 : k1.isNil = false := by simpa using h
       rw [if_neg (by simp [hk1])] at hmK
       subst hmK
       refine zaa ?_
       refine tx ?_
       refine yA ?_
       refine yA ?_
       refine yA ?_
       refine zab ?_
       refine zaf (zam (zaK (zam (zaK (zam ?_)))))
       refine fT (fun o => o) (.tmp _ _ _ _ rfl (.tmp _ _ _ _ rfl (.tmp _ _ _ _ rfl .nil))) ?_ ?_
       ·exact rfl
       ·exact trivial
      ·have hk1 : k1.isNil = true := by simpa using h
       rw [if_pos hk1] at hmK
       refine zad (zae ?_)
       refine tx ?_
       refine yP (zaq (r := .ref _ _)) ?_
       refine yM ?_
       refine yM ?_
       refine yM ?_
       refine yP zbk ?_
       refine yF zbH ?_
       refine zac (za6 Tryz.underlying144 zcc (by omega) (by omega) (by first | (simp only [Int.toNat_natCast, Nat.mul_one, Nat.zero_add]; rfl) | rfl)) rfl rfl ?_
       refine zal (zbp (Y := .p _) zcc rfl (by first | exact Nat.eq_of_beq_eq_true rfl | (simp only [AV.cells, List.length_map]; first | assumption | omega)) (by first | exact Nat.le_of_ble_eq_true rfl | omega | (simp only [AV.cells, List.length_map]; omega)) (by first | (simp only [setR, AV.cells, List.take_succ_cons, List.take_zero, List.drop_succ_cons, List.drop_zero, List.drop_nil, List.take_nil, List.nil_append, List.cons_append, List.append_nil, List.length_cons, List.length_nil, Nat.reduceAdd, Nat.zero_add, Nat.add_zero]; rfl) | rfl)) rfl rfl ⟨rfl, trivial⟩ ?_
       refine yA ?_
       refine zab ?_
       refine za3 (zae ?_)
       refine ⟨m, by omega, _, zaJ id _ _ ?_ ?_ rfl, k0, .nd q o' ka kb, more, by omega, by omega, hmore, hmK, rfl⟩
       ·exact ⟨⟨rfl, rfl⟩, ⟨rfl, rfl⟩, ⟨rfl, rfl⟩, trivial⟩
       ·exact ⟨⟨rfl, rfl⟩, trivial⟩
     | false =>
      rw [show bitN q p.length = 0 by unfold bitN; rw [hbit]; rfl] at hS
      rw [hbit, if_neg (by simp)] at hmK
      refine zad (zaa ?_)
      refine zav 4 (by kernel_rfl) ?_
      refine yP (zaq (r := .ref _ _)) ?_
      refine yP zbk ?_
      refine yF zbB ?_
      refine lN Tryz.underlying52 rfl sz52 rfl rfl ⟨rfl, trivial⟩ ?_
      refine yM ?_
      refine yP zbC ?_
      refine yP (zaH zbB rfl) ?_
      refine zac (zaz Tryz.underlying52 rfl sz52 (by first | omega | (simp; done) | (simp; omega)) (rfl)) rfl rfl ?_
      refine yV (fun n => 92 + 1000 * n) (hS) Tryz.func99 ?_
      refine yA ?_
      refine zab ⟨by kernel_rfl, ?_⟩
      refine zaa (zaa ?_)
      refine tx ?_
      refine yP (zaq (r := .ref _ _)) ?_
      refine yM ?_
      refine yP zbk ?_
      refine yF zbH ?_
      refine zac (za6 Tryz.underlying144 zcc (by omega) (by omega) (by first | (simp only [Int.toNat_natCast, Nat.mul_one, Nat.zero_add]; rfl) | rfl)) rfl rfl ?_
      refine yL Tryz.underlying100 ?_
      refine yP (zhu Tryz.underlying100) ?_
      refine yM ?_
      refine mb2 _ rfl rfl (fun hb => (zaq (r := .ref _ _))) (fun _ => trivial) ?_
      refine mb2 _ rfl rfl (fun hb => zbk) (fun _ => trivial) ?_
      refine mb2 _ rfl rfl (fun hb => (zag zbH rfl)) (fun _ => trivial) ?_
      refine mb2 _ rfl rfl (fun hb => (za6 Tryz.underlying144 zcc (by omega) (by omega) (by first | (simp only [Int.toNat_natCast, Nat.mul_one, Nat.zero_add]; rfl) | rfl))) (fun _ => trivial) ?_
      refine mb2 _ rfl rfl (fun hb => (zat Tryz.underlying100 rfl (by first | rfl | assumption))) (fun _ => ⟨rfl, trivial⟩) ?_
      refine mb2 _ rfl rfl (fun hb => zhu Tryz.underlying100) (fun _ => trivial) ?_
      refine zac (a_or (by first | exact id | (simp; done) | grind)) rfl rfl ?_
      refine zab ?_
      refine zae ?_
      refine zah _ rfl (fun h => ?_) (fun h => ?_)
      ·have hk1 : ¬ (k0.isNil = true ∧ k1.isNil = true) := by
        intro hh
        simp [hh.1, hh.2] at h
       rw [if_neg hk1] at hmK
       subst hmK
       refine zaa ?_
       refine tx ?_
       refine yA ?_
       refine yA ?_
       refine yA ?_
       refine zab ?_
       refine zaf (zam (zaK (zam (zaK (zam ?_)))))
       refine fT (fun o => o) (.tmp _ _ _ _ rfl (.tmp _ _ _ _ rfl (.tmp _ _ _ _ rfl .nil))) ?_ ?_
       ·exact rfl
       ·exact trivial
      ·have hk1 : k0.isNil = true ∧ k1.isNil = true := by simpa using h
       rw [if_pos hk1] at hmK
       refine zad (zae ?_)
       refine tx ?_
       refine yP (zaq (r := .ref _ _)) ?_
       refine yM ?_
       refine yM ?_
       refine yM ?_
       refine yP zbk ?_
       refine yF zbH ?_
       refine zac (za6 Tryz.underlying144 zcc (by omega) (by omega) (by first | (simp only [Int.toNat_natCast, Nat.mul_one, Nat.zero_add]; rfl) | rfl)) rfl rfl ?_
       refine zal (zbp (Y := .p _) zcc rfl (by first | exact Nat.eq_of_beq_eq_true rfl | (simp only [AV.cells, List.length_map]; first | assumption | omega)) (by first | exact Nat.le_of_ble_eq_true rfl | omega | (simp only [AV.cells, List.length_map]; omega)) (by first | (simp only [setR, AV.cells, List.take_succ_cons, List.take_zero, List.drop_succ_cons, List.drop_zero, List.drop_nil, List.take_nil, List.nil_append, List.cons_append, List.append_nil, List.length_cons, List.length_nil, Nat.reduceAdd, Nat.zero_add, Nat.add_zero]; rfl) | rfl)) rfl rfl ⟨rfl, trivial⟩ ?_
       refine yA ?_
       refine zab ?_
       refine za3 (zae ?_)
       refine ⟨m, by omega, _, zaJ id _ _ ?_ ?_ rfl, .nd q o' ka kb, k1, more, by omega, by omega, hmore, hmK, rfl⟩
       ·exact ⟨⟨rfl, rfl⟩, ⟨rfl, rfl⟩, ⟨rfl, rfl⟩, trivial⟩
       ·exact ⟨⟨rfl, rfl⟩, trivial⟩
  have hnil : mine = [] := by
   cases mine with
   | nil => rfl
   | cons y m' => simp at h
  clear h
  subst hnil
  rw [zgd] at hmK
  subst hmK
  refine zaG (zaa (zaa ?_))
  refine tx ?_
  refine yP (zaq (r := .ref _ _)) ?_
  refine yP zbk ?_
  refine yF fi146_1 ?_
  refine yL Tryz.underlying9 ?_
  refine yP zbQ ?_
  refine yM ?_
  refine mb2 _ rfl rfl (fun hb => (zaq (r := .ref _ _))) (fun _ => trivial) ?_
  refine mb2 _ rfl rfl (fun hb => zbk) (fun _ => trivial) ?_
  refine mb2 _ rfl rfl (fun hb => (zag zbH rfl)) (fun _ => trivial) ?_
  refine mb2 _ rfl rfl (fun hb => (za6 Tryz.underlying144 zcc (by omega) (by omega) (by first | (simp only [Int.toNat_natCast, Nat.mul_one, Nat.zero_add]; rfl) | rfl))) (fun _ => trivial) ?_
  refine mb2 _ rfl rfl (fun hb => (zat Tryz.underlying100 rfl (by first | rfl | assumption))) (fun _ => ⟨rfl, trivial⟩) ?_
  refine mb2 _ rfl rfl (fun hb => a_peqTR Tryz.underlying100) (fun _ => trivial) ?_
  refine mb2 _ rfl rfl (fun hb => (zaq (r := .p _))) (fun _ => trivial) ?_
  refine mb2 _ rfl rfl (fun hb => (zaq (r := .ref _ _))) (fun _ => trivial) ?_
  refine mb2 _ rfl rfl (fun hb => zbk) (fun _ => trivial) ?_
  refine mb2 _ rfl rfl (fun hb => (zag zbH rfl)) (fun _ => trivial) ?_
  refine mb2 _ rfl rfl (fun hb => (za6 Tryz.underlying144 zcc (by omega) (by omega) (by first | (simp only [Int.toNat_natCast, Nat.mul_one, Nat.zero_add]; rfl) | rfl))) (fun _ => trivial) ?_
  refine mb2 _ rfl rfl (fun hb => (zat Tryz.underlying100 rfl (by first | rfl | assumption))) (fun _ => ⟨rfl, trivial⟩) ?_
  refine mb2 _ rfl rfl (fun hb => a_peqTR Tryz.underlying100) (fun _ => trivial) ?_
  refine r_mb3 _ rfl rfl (.mb _ _ _ _ (by first | exact id | simp_all) (.keep _ _ _ (.keep _ _ _ .nil))) (fun hb => (a_or (by first | exact id | (simp_all; done) | grind))) (fun _ => trivial) ?_
  refine zac (zbl (by first | exact id | (simp; done) | grind)) rfl rfl ?_
  refine zab ?_
  refine zae ?_
  refine zah _ rfl (fun h => ?_) (fun h => ?_)
  ·have hc : o = noOwn ∧ (k0.isNil = true ∨ k1.isNil = true) := by simpa using h
   rw [growTop_no hc]
   refine zaa ?_
   refine tx ?_
   refine yA ?_
   refine yA ?_
   refine yA ?_
   refine zab ?_
   refine zaf (zam ?_)
   refine fT (fun o => o) (.tmp _ _ _ _ rfl (.tmp _ _ _ _ rfl (.tmp _ _ _ _ rfl .nil))) ?_ ?_
   ·exact rfl
   ·exact trivial
  ·have hc : ¬ (o = noOwn ∧ (k0.isNil = true ∨ k1.isNil = true)) := by
    intro hh
    simp [hh.1] at h
    rcases hh.2 with h' | h' <;> simp [h'] at h
   rw [zgl hc]
   refine zcx (zdV (cs := [.v (.int .u32 (zaT p)), .v (.int .i64 p.length), .v (.string o), trP k0, trP k1]) 48 rfl rfl) ?_
   refine zad (zaa ?_)
   refine tx ?_
   refine yM ?_
   refine yM ?_
   refine yA ?_
   refine yA ?_
   refine yA ?_
   refine zab ?_
   refine zaf ?_
   refine fT (fun o => o) (.tmp _ _ _ _ rfl (.tmp _ _ _ _ rfl (.tmp _ _ _ _ rfl .nil))) ?_ ?_
   ·exact rfl
   ·exact trivial
end Go.Proofs.YtgpleldhddpcgaaGreatDoor
