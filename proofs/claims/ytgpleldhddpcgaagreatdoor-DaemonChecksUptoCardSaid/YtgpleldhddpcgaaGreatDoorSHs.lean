/- package keys: Check, Fresh, Old, and their references, over data. -/
import Derived.Test.YtgpleldhddpcgaaGreatDoorSMa4
import Derived.Test.YtgpleldhddpcgaaGreatDoorSHx
import Derived.Test.YtgpleldhddpcgaaGreatDoorSWinA
namespace Go.Proofs.YtgpleldhddpcgaaGreatDoor
open Go.RowKit Go.Sort
set_option linter.unusedVariables false
set_option linter.unusedSimpArgs false
set_option maxRecDepth 100000
theorem winCheck_s (s : Bool) (l b : Int) (hb0 : 0 ≤ b) (hb1 : b < 18446744073709551616) (hl0 : -9223372036854775808 ≤ l) (hl1 : l < 9223372036854775808) : Fn Tryz.prog 158 [.agg [.p (.v (.bool s)), .p (.v (.int .i64 l)), .p (.v (.int .u64 b))]] (.p (.v (.int .i64 (zbs s l b)))) [] :=
 zcG rfl (fun _ _ _ => zbn rfl) (winCheck_g s l b hb0 hb1 hl0 hl1)
theorem refWinFault_s (s : Bool) (l b : Int) (hb0 : 0 ≤ b) (hb1 : b < 18446744073709551616) (hl0 : -9223372036854775808 ≤ l) (hl1 : l < 9223372036854775808) : Fn Tryz.prog 160 [.agg [.p (.v (.bool s)), .p (.v (.int .i64 l)), .p (.v (.int .u64 b))]] (.p (.v (.int .i64 (zbs s l b)))) [] :=
 zcG rfl (fun _ _ _ => zbn rfl) (refWinFault_g s l b hb0 hb1 hl0 hl1)
/-- keys -/
structure KY where
 live : Bool
 send : ByteArray
 take : ByteArray
 mine : Int
 theirs : Int
 born : Int
 counter : Int
 ss : Bool
 sl : Int
 sb : Int
 first : Bool
def KY.vals (k : KY) : List Value := [.bool k.live, .string k.send, .string k.take, .int .i64 k.mine, .int .i64 k.theirs, .int .i64 k.born, .int .i64 k.counter, .bool k.ss, .int .i64 k.sl, .int .u64 k.sb, .bool k.first]
def KY.pv (k : KY) : List PV := [.v (.bool k.live), .v (.string k.send), .v (.string k.take), .v (.int .i64 k.mine), .v (.int .i64 k.theirs), .v (.int .i64 k.born), .v (.int .i64 k.counter), .v (.bool k.ss), .v (.int .i64 k.sl), .v (.int .u64 k.sb), .v (.bool k.first)]
def KY.cells (k : KY) : List AV := [.p (.v (.bool k.live)), .p (.v (.string k.send)), .p (.v (.string k.take)), .p (.v (.int .i64 k.mine)), .p (.v (.int .i64 k.theirs)), .p (.v (.int .i64 k.born)), .p (.v (.int .i64 k.counter)), .p (.v (.bool k.ss)), .p (.v (.int .i64 k.sl)), .p (.v (.int .u64 k.sb)), .p (.v (.bool k.first))]
def KY0 : KY := ⟨false, ⟨#[]⟩, ⟨#[]⟩, 0, 0, 0, 0, false, 0, 0, false⟩
structure KY.OK (k : KY) : Prop where
 sb0 : 0 ≤ k.sb
 sb1 : k.sb < 18446744073709551616
 sl0 : -9223372036854775808 ≤ k.sl
 sl1 : k.sl < 9223372036854775808
 m0 : -9223372036854775808 ≤ k.mine
 m1 : k.mine ≤ 9223372036854775807
 t0 : -9223372036854775808 ≤ k.theirs
 t1 : k.theirs ≤ 9223372036854775807
 b0 : -9223372036854775808 ≤ k.born
 b1 : k.born ≤ 9223372036854775807
 c0 : -9223372036854775808 ≤ k.counter
 c1 : k.counter ≤ 9223372036854775807
 s0 : k.send.size ≤ 140737488351232
 s1 : k.take.size ≤ 140737488351232
theorem KY0.ok : KY0.OK := by constructor <;> decide
noncomputable def KY.zero (k : KY) : Bool := eqL k.vals KY0.vals
def KY.bad (k : KY) : Bool := (((((((decide (k.mine < 1) || decide (4294967295 < k.mine)) || decide (k.theirs < 1)) || decide (4294967295 < k.theirs)) || decide (k.born < 0)) || decide (1099511627776 < k.born)) || decide (k.counter < 0)) || decide (1099511627776 < k.counter))
noncomputable def kE (k : KY) : Int :=
 if k.live = false then (if k.zero = true then 0 else 14)
 else if keyE k.send ≠ 0 then keyE k.send else if keyE k.take ≠ 0 then keyE k.take else if k.bad = true then 4 else zbs k.ss k.sl k.sb
theorem kE_live {k : KY} (h : kE k = 0) (hl : k.live = true) : keyE k.send = 0 ∧ keyE k.take = 0 ∧ k.bad = false ∧ zbs k.ss k.sl k.sb = 0 := by
 unfold kE at h
 rw [if_neg (by simp [hl])] at h
 by_cases h1 : keyE k.send = 0
 ·rw [if_neg (by simp [h1])] at h
  by_cases h2 : keyE k.take = 0
  ·rw [if_neg (by simp [h2])] at h
   by_cases h3 : k.bad = true
   ·rw [if_pos h3] at h; omega
   ·rw [if_neg h3] at h
    exact ⟨h1, h2, by simpa using h3, h⟩
  ·rw [if_pos h2] at h; exact absurd h h2
 ·rw [if_pos h1] at h; exact absurd h h1
theorem kE_bounds {k : KY} (h : kE k = 0) (hl : k.live = true) : 1 ≤ k.mine ∧ k.mine ≤ 4294967295 ∧ 1 ≤ k.theirs ∧ k.theirs ≤ 4294967295 ∧ 0 ≤ k.counter ∧ k.counter ≤ 1099511627776 ∧ 0 ≤ k.born ∧ k.born ≤ 1099511627776 := by
 have h3 := (kE_live h hl).2.2.1
 unfold KY.bad at h3
 simp at h3
 omega
theorem KY.eqL_iff {a b : KY} : eqL a.vals b.vals = true ↔ a = b := by
 rw [za7]
 constructor
 ·intro h
  cases a; cases b
  simpa [KY.vals] using h
 ·intro h; rw [h]
theorem KY.zero_iff {k : KY} : k.zero = true ↔ k = KY0 := KY.eqL_iff
set_option maxHeartbeats 2000000 in
theorem kcheck_s (k : KY) (ok : k.OK) : Fn Tryz.prog 126 [.agg k.cells] (.p (.v (.int .i64 (kE k)))) [] := by
 have hW := winCheck_s k.ss k.sl k.sb ok.sb0 ok.sb1 ok.sl0 ok.sl1
 refine zap Tryz.func126 rfl (Nat.le_of_ble_eq_true rfl) fun w0 A => ?_
 refine zaa ?_
 refine tx ?_
 refine zal (za2 (X := .agg _) 1 rfl) rfl rfl ⟨rfl, trivial⟩ ?_
 refine yA ?_
 refine zab ?_
 refine zaa (zaa ?_)
 refine tx ?_
 refine yF fi74_0 ?_
 refine yL Tryz.underlying4 ?_
 refine yP za0 ?_
 refine zab ?_
 refine zae ?_
 refine zah _ rfl (fun h => ?_) (fun h => ?_)
 ·have hl : k.live = false := by simpa using h
  have hE : kE k = if k.zero = true then 0 else 14 := by unfold kE; rw [if_pos hl]
  rw [hE]
  refine zaa (zaa ?_)
  refine tx ?_
  refine lN Tryz.underlying74 rfl sz74 rfl rfl ⟨rfl, trivial⟩ ?_
  refine yP (zaR pl74 zr74 rfl rfl) ?_
  refine zac (zcy Tryz.underlying74 rfl rfl (by kernel_rfl) (by kernel_rfl) (by kernel_rfl)) rfl rfl ?_
  refine zab ?_
  refine zae ?_
  refine zah _ rfl (fun h => ?_) (fun h => ?_)
  ·have hz : ¬ k.zero = true := by
    intro hz
    have hz' : eqL k.vals KY0.vals = true := hz
    have h' : (!eqL k.vals KY0.vals) = true := h
    rw [hz'] at h'; cases h'
   rw [if_neg hz]
   refine zaa ?_
   refine tx ?_
   refine yA ?_
   refine zab ?_
   refine zaf (zam (zam ?_))
   refine yT ?_ ?_
   ·exact rfl
   ·exact trivial
  ·have hz : k.zero = true := by
    have h' : (!eqL k.vals KY0.vals) = false := h
    show eqL k.vals KY0.vals = true
    cases hq : eqL k.vals KY0.vals
    ·rw [hq] at h'; cases h'
    ·rfl
   rw [if_pos hz]
   refine zad (zaa ?_)
   refine tx ?_
   refine yA ?_
   refine zab ?_
   refine zaf (zam ?_)
   refine yT ?_ ?_
   ·exact rfl
   ·exact trivial
 have hl : k.live = true := by simpa using h
 clear h
 have hE : kE k = if keyE k.send ≠ 0 then keyE k.send else if keyE k.take ≠ 0 then keyE k.take else if k.bad = true then 4 else zbs k.ss k.sl k.sb := by unfold kE; rw [if_neg (by simp [hl])]
 rw [hE]
 refine zad (zaa (zaa ?_))
 refine tx ?_
 refine yF fi74_1 ?_
 refine yL Tryz.underlying9 ?_
 refine yF fi74_2 ?_
 refine yL Tryz.underlying9 ?_
 refine zac (xs := [.p (.v (.string k.send)), .p (.v (.string k.take))]) (zfO (es := [.p (.v (.string k.send)), .p (.v (.string k.take))]) Tryz.underlying201 zr201 rfl sz9 (by kernel_rfl)) (by first | rfl | kernel_rfl) rfl ?_
 refine yM ?_
 refine zab ?_
 refine zaj ?_
 refine zaE (fun m st => ∃ i : Nat, m + i = 2 ∧ (1 ≤ i → keyE k.send = 0) ∧ (2 ≤ i → keyE k.take = 0) ∧ st = St.of [(1, .ref 1 0), (16, .agg [.p (.v (.string k.send)), .p (.v (.string k.take))]), (17, .p (.v (.int .i64 i)))] [(1, .box 74 k.cells)]) 2 ?_ ?_
 ·refine ⟨_, zaJ id _ _ ?_ ?_ rfl, 0, by omega, by omega, by omega, rfl⟩
  ·(repeat (first | exact trivial | (refine ⟨⟨(by first | rfl | (simp; done) | (simp; omega)), rfl⟩, ?_⟩)))
  ·exact ⟨⟨rfl, rfl⟩, trivial⟩
 rintro m st ⟨i, hi, hi1, hi2, rfl⟩
 refine zaa ?_
 refine tx ?_
 refine yP zaX ?_
 refine zab ?_
 refine zaa ?_
 refine zah _ rfl (fun h => ?_) (fun h => ?_)
 ·have hlt : i < 2 := by simp at h; omega
  clear h
  obtain ⟨x, hx, hxa, hxb⟩ : ∃ x : ByteArray, [AV.p (.v (.string k.send)), AV.p (.v (.string k.take))][i]? = some (.p (.v (.string x))) ∧ (i = 0 → x = k.send) ∧ (i = 1 → x = k.take) := by
   match i, hlt with
   | 0, _ => exact ⟨k.send, rfl, fun _ => rfl, by omega⟩
   | 1, _ => exact ⟨k.take, rfl, by omega, fun _ => rfl⟩
  refine zad (zaa (zaj (zaa ?_)))
  refine tx ?_
  refine zac (ze9 Tryz.underlying201 sz9 Tryz.underlying9 rfl (by omega) (by omega) (by first | rfl | assumption | ((try simp only [Int.toNat_natCast, Nat.mul_one, Nat.add_zero, Nat.zero_add]); first | assumption | rfl))) rfl rfl ?_
  refine yA ?_
  refine zab ?_
  refine zaa ?_
  refine tx ?_
  refine yM ?_
  refine yV (fun n => 21 + 1000 * n) (zb0 x) Tryz.func53 ?_
  refine yA ?_
  refine zab ?_
  refine zaa ?_
  refine tx ?_
  refine yM ?_
  refine yP za8 ?_
  refine zab ?_
  refine zae ?_
  refine zah _ rfl (fun h => ?_) (fun h => ?_)
  ·have hne : keyE x ≠ 0 := by simpa using h
   have hE2 : (if keyE k.send ≠ 0 then keyE k.send else if keyE k.take ≠ 0 then keyE k.take else if k.bad = true then 4 else zbs k.ss k.sl k.sb) = keyE x := by
    match i, hlt with
    | 0, _ => rw [hxa rfl] at hne ⊢; rw [if_pos hne]
    | 1, _ => rw [hxb rfl] at hne ⊢; rw [if_neg (by simp [hi1 (by omega)]), if_pos hne]
   rw [hE2]
   refine zaa ?_
   refine tx ?_
   refine yM ?_
   refine yA ?_
   refine zab ?_
   refine zaf (zaK (zam (zam (zaK (zam ?_)))))
   refine yT ?_ ?_
   ·exact rfl
   ·exact trivial
  ·have he : keyE x = 0 := by simpa using h
   refine zad (za3 (zae ?_))
   refine tx ?_
   refine zac (za4 (by first | exact IntWalk.i64_in _ (by omega) | rfl)) rfl rfl ?_
   refine yM ?_
   refine zab ?_
   refine zae ?_
   refine ⟨m - 1, by omega, _, zaJ id _ _ ?_ ?_ rfl, i + 1, by omega, ?_, ?_, rfl⟩
   ·(repeat (first | exact trivial | (refine ⟨⟨(by first | rfl | (simp; done) | (simp; omega)), rfl⟩, ?_⟩)))
   ·exact ⟨⟨rfl, rfl⟩, trivial⟩
   ·intro _
    by_cases h0 : i = 0
    ·rw [← hxa h0]; exact he
    ·exact hi1 (by omega)
   ·intro _
    rw [← hxb (by omega)]; exact he
 have hge : i = 2 := by simp at h; omega
 clear h
 subst hge
 have ha := hi1 (by omega)
 have hb := hi2 (by omega)
 rw [if_neg (by simp [ha]), if_neg (by simp [hb])]
 clear hE
 refine zaG (zaa (zaa ?_))
 refine tx ?_
 refine yF zdL ?_
 refine yL Tryz.underlying3 ?_
 refine yP zaX ?_
 refine yM ?_
 refine mb2 _ rfl rfl (fun hb => (zag zdL rfl)) (fun _ => trivial) ?_
 refine mb2 _ rfl rfl (fun hb => (zat Tryz.underlying3 rfl (by first | rfl | assumption))) (fun _ => ⟨rfl, trivial⟩) ?_
 refine mb2 _ rfl rfl (fun hb => za5) (fun _ => trivial) ?_
 refine zac (a_or (by first | exact id | (simp; done) | grind)) rfl rfl ?_
 refine yM ?_
 refine mb2 _ rfl rfl (fun hb => (zag fi74_4 rfl)) (fun _ => trivial) ?_
 refine mb2 _ rfl rfl (fun hb => (zat Tryz.underlying3 rfl (by first | rfl | assumption))) (fun _ => ⟨rfl, trivial⟩) ?_
 refine mb2 _ rfl rfl (fun hb => zaX) (fun _ => trivial) ?_
 refine zac (a_or (by first | exact id | (simp; done) | grind)) rfl rfl ?_
 refine yM ?_
 refine mb2 _ rfl rfl (fun hb => (zag fi74_4 rfl)) (fun _ => trivial) ?_
 refine mb2 _ rfl rfl (fun hb => (zat Tryz.underlying3 rfl (by first | rfl | assumption))) (fun _ => ⟨rfl, trivial⟩) ?_
 refine mb2 _ rfl rfl (fun hb => za5) (fun _ => trivial) ?_
 refine zac (a_or (by first | exact id | (simp; done) | grind)) rfl rfl ?_
 refine yM ?_
 refine mb2 _ rfl rfl (fun hb => (zag fi74_5 rfl)) (fun _ => trivial) ?_
 refine mb2 _ rfl rfl (fun hb => (zat Tryz.underlying3 rfl (by first | rfl | assumption))) (fun _ => ⟨rfl, trivial⟩) ?_
 refine mb2 _ rfl rfl (fun hb => zaX) (fun _ => trivial) ?_
 refine zac (a_or (by first | exact id | (simp; done) | grind)) rfl rfl ?_
 refine yM ?_
 refine mb2 _ rfl rfl (fun hb => (zag fi74_5 rfl)) (fun _ => trivial) ?_
 refine mb2 _ rfl rfl (fun hb => (zat Tryz.underlying3 rfl (by first | rfl | assumption))) (fun _ => ⟨rfl, trivial⟩) ?_
 refine mb2 _ rfl rfl (fun hb => za5) (fun _ => trivial) ?_
 refine zac (a_or (by first | exact id | (simp; done) | grind)) rfl rfl ?_
 refine yM ?_
 refine mb2 _ rfl rfl (fun hb => (zag fi74_6 rfl)) (fun _ => trivial) ?_
 refine mb2 _ rfl rfl (fun hb => (zat Tryz.underlying3 rfl (by first | rfl | assumption))) (fun _ => ⟨rfl, trivial⟩) ?_
 refine mb2 _ rfl rfl (fun hb => zaX) (fun _ => trivial) ?_
 refine zac (a_or (by first | exact id | (simp; done) | grind)) rfl rfl ?_
 refine yM ?_
 refine mb2 _ rfl rfl (fun hb => (zag fi74_6 rfl)) (fun _ => trivial) ?_
 refine mb2 _ rfl rfl (fun hb => (zat Tryz.underlying3 rfl (by first | rfl | assumption))) (fun _ => ⟨rfl, trivial⟩) ?_
 refine mb2 _ rfl rfl (fun hb => za5) (fun _ => trivial) ?_
 refine zac (a_or (by first | exact id | (simp; done) | grind)) rfl rfl ?_
 refine zab ?_
 refine zae ?_
 refine zah _ rfl (fun h => ?_) (fun h => ?_)
 ·have h' : k.bad = true := h
  rw [if_pos h']
  refine zaa ?_
  refine tx ?_
  refine yA ?_
  refine zab ?_
  refine zaf (zam ?_)
  refine yT ?_ ?_
  ·exact rfl
  ·exact trivial
 ·have h' : k.bad = false := h
  rw [if_neg (by simp [h'])]
  refine zad (zaa ?_)
  refine tx ?_
  refine yF fi74_7 ?_
  refine lN Tryz.underlying72 rfl sz72 rfl rfl ⟨rfl, trivial⟩ ?_
  refine yV (fun n => 66 + 1000 * n) (hW) Tryz.func158 ?_
  refine yA ?_
  refine zab ?_
  refine zaf ?_
  refine yT ?_ ?_
  ·exact rfl
  ·exact trivial
theorem idx_s (n : Int) : Fn Tryz.prog 159 [.p (.v (.int .i64 n))] (.p (.v (.bool (decide (0 < n) && decide (n < 4294967296))))) [] := by
 refine zap Tryz.func159 rfl (Nat.le_of_ble_eq_true rfl) fun w0 A => ?_
 refine zaa ?_
 refine tx ?_
 refine yA ?_
 refine zab ?_
 refine zaa ?_
 refine tx ?_
 refine yM ?_
 refine yP za5 ?_
 refine yM ?_
 refine mb2 _ rfl rfl (fun hb => (zaq (r := .p _))) (fun _ => trivial) ?_
 refine mb2 _ rfl rfl (fun hb => zaX) (fun _ => trivial) ?_
 refine zac (zbl (by first | exact id | (simp; done) | grind)) rfl rfl ?_
 refine yA ?_
 refine zab ?_
 refine zaf ?_
 refine yT ?_ ?_
 ·exact rfl
 ·exact trivial
set_option maxHeartbeats 2000000 in
theorem refKFault_s (k : KY) (ok : k.OK) : Fn Tryz.prog 129 [.agg k.cells] (.p (.v (.int .i64 (kE k)))) [] := by
 have hW := refWinFault_s k.ss k.sl k.sb ok.sb0 ok.sb1 ok.sl0 ok.sl1
 refine zap Tryz.func129 rfl (Nat.le_of_ble_eq_true rfl) fun w0 A => ?_
 refine zaa ?_
 refine tx ?_
 refine zal (za2 (X := .agg _) 1 rfl) rfl rfl ⟨rfl, trivial⟩ ?_
 refine yA ?_
 refine zab ?_
 refine zaa (zaa ?_)
 refine tx ?_
 refine yF fi74_0 ?_
 refine yL Tryz.underlying4 ?_
 refine yP za0 ?_
 refine zab ?_
 refine zae ?_
 refine zah _ rfl (fun h => ?_) (fun h => ?_)
 ·have hl : k.live = false := by simpa using h
  have hE : kE k = if k.zero = true then 0 else 14 := by unfold kE; rw [if_pos hl]
  rw [hE]
  refine zaa (zaa ?_)
  refine tx ?_
  refine lN Tryz.underlying74 rfl sz74 rfl rfl ⟨rfl, trivial⟩ ?_
  refine yP (zaR pl74 zr74 rfl rfl) ?_
  refine zac (zcy Tryz.underlying74 rfl rfl (by kernel_rfl) (by kernel_rfl) (by kernel_rfl)) rfl rfl ?_
  refine zab ?_
  refine zae ?_
  refine zah _ rfl (fun h => ?_) (fun h => ?_)
  ·have hz : ¬ k.zero = true := by
    intro hz
    have hz' : eqL k.vals KY0.vals = true := hz
    have h' : (!eqL k.vals KY0.vals) = true := h
    rw [hz'] at h'; cases h'
   rw [if_neg hz]
   refine zaa ?_
   refine tx ?_
   refine yA ?_
   refine zab ?_
   refine zaf (zam (zam ?_))
   refine yT ?_ ?_
   ·exact rfl
   ·exact trivial
  ·have hz : k.zero = true := by
    have h' : (!eqL k.vals KY0.vals) = false := h
    show eqL k.vals KY0.vals = true
    cases hq : eqL k.vals KY0.vals
    ·rw [hq] at h'; cases h'
    ·rfl
   rw [if_pos hz]
   refine zad (zaa ?_)
   refine tx ?_
   refine yA ?_
   refine zab ?_
   refine zaf (zam ?_)
   refine yT ?_ ?_
   ·exact rfl
   ·exact trivial
 have hl : k.live = true := by simpa using h
 clear h
 have hE : kE k = if keyE k.send ≠ 0 then keyE k.send else if keyE k.take ≠ 0 then keyE k.take else if k.bad = true then 4 else zbs k.ss k.sl k.sb := by unfold kE; rw [if_neg (by simp [hl])]
 rw [hE]
 refine zad (zaa (zaa ?_))
 refine tx ?_
 refine yF fi74_1 ?_
 refine yL Tryz.underlying9 ?_
 refine yV (fun n => 14 + 1000 * n) (zbT k.send) Tryz.func61 ?_
 refine yA ?_
 refine zab ?_
 refine zaa ?_
 refine tx ?_
 refine yM ?_
 refine yP za8 ?_
 refine zab ?_
 refine zae ?_
 refine zah _ rfl (fun h => ?_) (fun h => ?_)
 ·have hne : keyE k.send ≠ 0 := by simpa using h
  rw [if_pos hne]
  refine zaa ?_
  refine tx ?_
  refine yM ?_
  refine yA ?_
  refine zab ?_
  refine zaf (zam ?_)
  refine yT ?_ ?_
  ·exact rfl
  ·exact trivial
 have ha : keyE k.send = 0 := by simpa using h
 clear h
 rw [if_neg (by simp [ha])]
 refine zad (zaa (zaa ?_))
 refine tx ?_
 refine yF fi74_2 ?_
 refine yL Tryz.underlying9 ?_
 refine yV (fun n => 20 + 1000 * n) (zbT k.take) Tryz.func61 ?_
 refine yA ?_
 refine zab ?_
 refine zaa ?_
 refine tx ?_
 refine yM ?_
 refine yP za8 ?_
 refine zab ?_
 refine zae ?_
 refine zah _ rfl (fun h => ?_) (fun h => ?_)
 ·have hne : keyE k.take ≠ 0 := by simpa using h
  rw [if_pos hne]
  refine zaa ?_
  refine tx ?_
  refine yM ?_
  refine yA ?_
  refine zab ?_
  refine zaf (zam ?_)
  refine yT ?_ ?_
  ·exact rfl
  ·exact trivial
 have hb : keyE k.take = 0 := by simpa using h
 clear h
 rw [if_neg (by simp [hb])]
 clear hE
 have hbad2 : k.bad = ((((((!(decide (0 < k.mine) && decide (k.mine < 4294967296))) || (!(decide (0 < k.theirs) && decide (k.theirs < 4294967296)))) || decide (k.born < 0)) || decide (1099511627776 < k.born)) || decide (k.counter < 0)) || decide (1099511627776 < k.counter)) := by
  unfold KY.bad
  rw [Bool.eq_iff_iff]
  simp
  omega
 refine zad (zaa ?_)
 refine tx ?_
 refine yP (zas (r := .fn _ _)) ?_
 refine zab ?_
 refine zaa (zaa ?_)
 refine tx ?_
 refine yP (zaq (r := .fn _ _)) ?_
 refine yF zdL ?_
 refine yL Tryz.underlying3 ?_
 refine yV (fun n => 27 + 1000 * n) (idx_s k.mine) Tryz.func159 ?_
 refine yP za0 ?_
 refine yM ?_
 refine mb2 _ rfl rfl (fun hb => (zaq (r := .fn _ _))) (fun _ => trivial) ?_
 refine mb2 _ rfl rfl (fun hb => (zag fi74_4 rfl)) (fun _ => trivial) ?_
 refine mb2 _ rfl rfl (fun hb => (zat Tryz.underlying3 rfl (by first | rfl | assumption))) (fun _ => ⟨rfl, trivial⟩) ?_
 refine mb2 _ rfl rfl (fun _ => zbd Tryz.func159 rfl rfl (idx_s k.theirs) (by first | rfl | simp [AV.okInL, AV.okIn, zaZ]) rfl) (fun _ => trivial) ?_
 refine mb2 _ rfl rfl (fun hb => za0) (fun _ => trivial) ?_
 refine zac (a_or (by first | exact id | (simp; done) | grind)) rfl rfl ?_
 refine yM ?_
 refine mb2 _ rfl rfl (fun hb => (zag fi74_5 rfl)) (fun _ => trivial) ?_
 refine mb2 _ rfl rfl (fun hb => (zat Tryz.underlying3 rfl (by first | rfl | assumption))) (fun _ => ⟨rfl, trivial⟩) ?_
 refine mb2 _ rfl rfl (fun hb => zaX) (fun _ => trivial) ?_
 refine zac (a_or (by first | exact id | (simp; done) | grind)) rfl rfl ?_
 refine yM ?_
 refine mb2 _ rfl rfl (fun hb => (zag fi74_5 rfl)) (fun _ => trivial) ?_
 refine mb2 _ rfl rfl (fun hb => (zat Tryz.underlying3 rfl (by first | rfl | assumption))) (fun _ => ⟨rfl, trivial⟩) ?_
 refine mb2 _ rfl rfl (fun hb => za5) (fun _ => trivial) ?_
 refine zac (a_or (by first | exact id | (simp; done) | grind)) rfl rfl ?_
 refine yM ?_
 refine mb2 _ rfl rfl (fun hb => (zag fi74_6 rfl)) (fun _ => trivial) ?_
 refine mb2 _ rfl rfl (fun hb => (zat Tryz.underlying3 rfl (by first | rfl | assumption))) (fun _ => ⟨rfl, trivial⟩) ?_
 refine mb2 _ rfl rfl (fun hb => zaX) (fun _ => trivial) ?_
 refine zac (a_or (by first | exact id | (simp; done) | grind)) rfl rfl ?_
 refine yM ?_
 refine mb2 _ rfl rfl (fun hb => (zag fi74_6 rfl)) (fun _ => trivial) ?_
 refine mb2 _ rfl rfl (fun hb => (zat Tryz.underlying3 rfl (by first | rfl | assumption))) (fun _ => ⟨rfl, trivial⟩) ?_
 refine mb2 _ rfl rfl (fun hb => za5) (fun _ => trivial) ?_
 refine zac (a_or (by first | exact id | (simp; done) | grind)) rfl rfl ?_
 refine zab ?_
 refine zae ?_
 refine zah _ rfl (fun h => ?_) (fun h => ?_)
 ·have h' : k.bad = true := hbad2.trans h
  rw [if_pos h']
  refine zaa ?_
  refine tx ?_
  refine yA ?_
  refine zab ?_
  refine zaf (zam ?_)
  refine yT ?_ ?_
  ·exact rfl
  ·exact trivial
 ·have h' : k.bad = false := hbad2.trans h
  rw [if_neg (by simp [h'])]
  refine zad (zaa ?_)
  refine tx ?_
  refine yF fi74_7 ?_
  refine lN Tryz.underlying72 rfl sz72 rfl rfl ⟨rfl, trivial⟩ ?_
  refine yV (fun n => 58 + 1000 * n) (hW) Tryz.func160 ?_
  refine yA ?_
  refine zab ?_
  refine zaf ?_
  refine yT ?_ ?_
  ·exact rfl
  ·exact trivial
end Go.Proofs.YtgpleldhddpcgaaGreatDoor
/- keys.Fresh, keys.Old, their references, over data. -/
namespace Go.Proofs.YtgpleldhddpcgaaGreatDoor
open Go.RowKit Go.Sort
set_option linter.unusedVariables false
set_option linter.unusedSimpArgs false
set_option maxRecDepth 100000
theorem KY.of_ty {n : Nat} {ps : List PV} (h : Ty Tryz.prog (n + 3) 74 ps) : ∃ k : KY, k.OK ∧ ps = k.pv := by
 obtain ⟨_, rfl, x0, _, rfl, t0, x1, _, rfl, t1, x2, _, rfl, t2, x3, _, rfl, t3, x4, _, rfl, t4, x5, _, rfl, t5, x6, _, rfl, t6, x7, _, rfl, t7, x8, _, rfl, t8, rfl⟩ := zbv (ts := [4, 9, 9, 3, 3, 3, 3, 72, 4]) (by kernel_rfl) h
 obtain ⟨_, rfl, y0, _, rfl, u0, y1, _, rfl, u1, y2, _, rfl, u2, rfl⟩ := zbv (ts := [4, 3, 70]) (by kernel_rfl) t7
 obtain ⟨a0, rfl⟩ := zfT Tryz.underlying4 t0
 obtain ⟨a1, rfl, w1⟩ := zbS Tryz.underlying9 t1
 obtain ⟨a2, rfl, w2⟩ := zbS Tryz.underlying9 t2
 obtain ⟨a3, rfl, w3⟩ := zbM Tryz.underlying3 t3
 obtain ⟨a4, rfl, w4⟩ := zbM Tryz.underlying3 t4
 obtain ⟨a5, rfl, w5⟩ := zbM Tryz.underlying3 t5
 obtain ⟨a6, rfl, w6⟩ := zbM Tryz.underlying3 t6
 obtain ⟨a8, rfl⟩ := zfT Tryz.underlying4 t8
 obtain ⟨b0, rfl⟩ := zfT Tryz.underlying4 u0
 obtain ⟨b1, rfl, v1⟩ := zbM Tryz.underlying3 u1
 obtain ⟨b2, rfl, v2⟩ := zbM Tryz.underlying70 u2
 refine ⟨⟨a0, a1, a2, a3, a4, a5, a6, b0, b1, b2, a8⟩, ?_, rfl⟩
 have := zeQ w3; have := zeQ w4; have := zeQ w5; have := zeQ w6; have := zeQ v1; have := wf_u64 v2
 have : reachBytes ≤ 140737488351232 := Nat.le_of_ble_eq_true rfl
 constructor <;> simp only <;> omega
end Go.Proofs.YtgpleldhddpcgaaGreatDoor
/- A handshake under way, as data. -/
namespace Go.Proofs.YtgpleldhddpcgaaGreatDoor
open Go.RowKit Go.Sort
set_option linter.unusedVariables false
set_option linter.unusedSimpArgs false
set_option maxRecDepth 100000
/-- a handshake under way -/
structure HS where
 lv : Bool
 mine : Int
 nc : ByteArray
 b : Int
 s : Int
def HS.cells (x : HS) : List AV := [.p (.v (.bool x.lv)), .p (.v (.int .i64 x.mine)), .p (.v (.string x.nc)), .p (.v (.int .i64 x.b)), .p (.v (.int .i64 x.s))]
def HS.pv (x : HS) : List PV := [.v (.bool x.lv), .v (.int .i64 x.mine), .v (.string x.nc), .v (.int .i64 x.b), .v (.int .i64 x.s)]
theorem HS.of_ty {n : Nat} {ps : List PV} (h : Ty Tryz.prog (n + 3) 78 ps) : ∃ x : HS, -9223372036854775808 ≤ x.mine ∧ x.mine ≤ 9223372036854775807 ∧ x.nc.size ≤ 140737488351232 ∧ ps = x.pv := by
 obtain ⟨_, rfl, x0, _, rfl, t0, x1, _, rfl, t1, x2, _, rfl, t2, x3, _, rfl, t3, x4, _, rfl, t4, rfl⟩ := zbv (ts := [4, 3, 9, 3, 3]) (by kernel_rfl) h
 obtain ⟨a0, rfl⟩ := zfT Tryz.underlying4 t0
 obtain ⟨a1, rfl, w1⟩ := zbM Tryz.underlying3 t1
 obtain ⟨a2, rfl, w2⟩ := zbS Tryz.underlying9 t2
 obtain ⟨a3, rfl, w3⟩ := zbM Tryz.underlying3 t3
 obtain ⟨a4, rfl, w4⟩ := zbM Tryz.underlying3 t4
 obtain ⟨q0, q1⟩ := zeQ w1
 exact ⟨⟨a0, a1, a2, a3, a4⟩, q0, q1, w2, rfl⟩
end Go.Proofs.YtgpleldhddpcgaaGreatDoor
