/- What Check and Has of package window, and the references of them, compute: contracts. -/
import Derived.Deep.QuietTactic
import Derived.BigQuiet
import Derived.Test.YtlfjpippeeikdaaGreatDoorSHx
set_option linter.all false
namespace Go.Proofs.YtlfjpippeeikdaaGreatDoor
open Go.RowKit Go.Sort
set_option maxHeartbeats 16000000
def odd64 (x : Int) : Int := bits .and .u64 x 1
theorem zeJ (x : Int) (h0 : 0 ≤ x) (h1 : x < 18446744073709551616) : odd64 x = x % 2 := by
 unfold odd64
 rw [u64_and x 1 h0 h1 (by omega) (by omega)]
 obtain ⟨b, rfl⟩ := qaU h0
 have e : (1 : Int).toNat = 1 := rfl
 rw [e, nat_mask1]
 simp
theorem zic (a : Int) (k : Nat) (h2 : 0 ≤ a) (h3 : a < 18446744073709551616) : 0 ≤ a / 2 ^ k ∧ a / 2 ^ k < 18446744073709551616 := by
 obtain ⟨b, rfl⟩ := qaU h2
 rw [zbV]
 have h := Nat.div_le_self b (2 ^ k)
 have e : (b : Int) / ((2 ^ k : Nat) : Int) = ((b / 2 ^ k : Nat) : Int) := qz
 rw [e]
 generalize b / 2 ^ k = c at h
 omega
theorem odd64_shr (b : Int) (k : Nat) (h0 : 0 ≤ b) (h1 : b < 18446744073709551616) : odd64 (b / 2 ^ k) = b / 2 ^ k % 2 :=
 zeJ _ (zic b k h0 h1).1 (zic b k h0 h1).2
def zbh (s : Bool) (l b : Int) : Int :=
 if s = false then (if l = 0 ∧ b = 0 then 0 else 14)
 else if l < 0 ∨ 1099511627776 < l then 4
 else if b % 2 = 0 then 14
 else if l < 63 ∧ ¬ b / 2 ^ (l + 1).toNat = 0 then 14 else 0
theorem winCheck_g (s : Bool) (l b : Int) (hb0 : 0 ≤ b) (hb1 : b < 18446744073709551616) (hl0 : -9223372036854775808 ≤ l) (hl1 : l < 9223372036854775808) :
 Gives Tryz.prog 152 #[.agg #[.bool s, .int .i64 l, .int .u64 b]] (.int .i64 (zbh s l b)) := by
 intro w
 have HA := Lib.hid (zeJ b hb0 hb1)
 cases s
 ·have HE := Lib.hid (show zbh false l b = if l = 0 ∧ b = 0 then 0 else 14 by unfold zbh; rw [if_pos rfl])
  go_enter Tryz.func152, Tryz.ntmps152
  go_wp2_with fail
  all_goals (go_ret; exact ⟨zcZ (by rw [HE.out]; simp [*]), by (repeat' (first | exact Below.refl _ _ | assumption | refine ziD ?_ qP | refine zfD ?_ _ | refine ziE ?_ | refine zfC ?_ _ | refine bset ?_ ?_ _ | (show _ ≤ _; simp; omega) | (simp; done)))⟩)
 ·have HE := Lib.hid (show zbh true l b = if l < 0 ∨ 1099511627776 < l then 4 else if b % 2 = 0 then 14 else if l < 63 ∧ ¬ b / 2 ^ (l + 1).toNat = 0 then 14 else 0 by unfold zbh; rw [if_neg (by simp)])
  go_enter Tryz.func152, Tryz.ntmps152
  go_wp2_with fail
  all_goals
   go_ret
   refine ⟨zcZ ?_, by (repeat' (first | exact Below.refl _ _ | assumption | refine ziD ?_ qP | refine zfD ?_ _ | refine ziE ?_ | refine zfC ?_ _ | refine bset ?_ ?_ _ | (show _ ≤ _; simp; omega) | (simp; done)))⟩
   rw [HE.out, ← HA.out]
   unfold odd64
   (repeat' split) <;> simp_all <;> omega
theorem bits_high (l b : Int) (hb0 : 0 ≤ b) (hb1 : b < 18446744073709551616) (hl : 0 ≤ l) (H : ∀ j : Nat, j < 64 → l < j → b / 2 ^ j % 2 = 0) : ¬ (l < 63 ∧ ¬ b / 2 ^ (l + 1).toNat = 0) := by
 rintro ⟨h63, hne⟩
 obtain ⟨x, rfl⟩ := qaU hb0
 obtain ⟨m, rfl⟩ := qaU hl
 have e : ((m : Int) + 1).toNat = m + 1 := qk
 rw [e] at hne
 apply hne
 have key : x / 2 ^ (m + 1) = 0 := by
  apply Nat.eq_of_testBit_eq
  intro i
  rw [Nat.testBit_div_two_pow, Nat.zero_testBit]
  by_cases hi : i + (m + 1) < 64
  ·have := H (i + (m + 1)) hi qk
   rw [zbV] at this
   have h2 : x / 2 ^ (i + (m + 1)) % 2 = 0 := by exact_mod_cast this
   rw [Nat.testBit_eq_decide_div_mod_eq]
   simp [h2]
  ·exact Nat.testBit_lt_two_pow (qbP (show x < 2 ^ 64 by omega) (qbA qw qk))
 rw [zbV]
 have : (x : Int) / ((2 ^ (m + 1) : Nat) : Int) = ((x / 2 ^ (m + 1) : Nat) : Int) := qz
 rw [this, key]
 rfl
theorem bits_high' (l b : Int) (k : Nat) (hb0 : 0 ≤ b) (hl : 0 ≤ l) (hk : k < 64) (hlk : l < k) (hbit : b / 2 ^ k % 2 = 1) : l < 63 ∧ ¬ b / 2 ^ (l + 1).toNat = 0 := by
 refine ⟨qk, fun h0 => ?_⟩
 obtain ⟨x, rfl⟩ := qaU hb0
 obtain ⟨m, rfl⟩ := qaU hl
 have e : ((m : Int) + 1).toNat = m + 1 := qk
 rw [e, zbV] at h0
 rw [zbV] at hbit
 have h1 : x / 2 ^ (m + 1) = 0 := by exact_mod_cast h0
 have h2 : x / 2 ^ k % 2 = 1 := by exact_mod_cast hbit
 have h3 : x < 2 ^ (m + 1) := by
  rcases Nat.div_eq_zero_iff.1 h1 with h | h
  ·have := qbq (m + 1); omega
  ·exact h
 have h4 : x / 2 ^ k = 0 := Nat.div_eq_of_lt (qbP h3 (qbA qw qk))
 rw [h4] at h2
 simp at h2
theorem refWinFault_g (s : Bool) (l b : Int) (hb0 : 0 ≤ b) (hb1 : b < 18446744073709551616) (hl0 : -9223372036854775808 ≤ l) (hl1 : l < 9223372036854775808) :
 Gives Tryz.prog 159 #[.agg #[.bool s, .int .i64 l, .int .u64 b]] (.int .i64 (zbh s l b)) := by
 intro w
 cases s
 ·have HE := Lib.hid (show zbh false l b = if l = 0 ∧ b = 0 then 0 else 14 by unfold zbh; rw [if_pos rfl])
  go_enter Tryz.func159, Tryz.ntmps159
  go_wp2_with fail
  all_goals (go_ret; exact ⟨zcZ (by rw [HE.out]; (repeat' split) <;> simp_all), by (repeat' (first | exact Below.refl _ _ | assumption | refine ziD ?_ qP | refine zfD ?_ _ | refine ziE ?_ | refine zfC ?_ _ | refine bset ?_ ?_ _ | (show _ ≤ _; simp; omega) | (simp; done)))⟩)
 ·have HE := Lib.hid (show zbh true l b = if l < 0 ∨ 1099511627776 < l then 4 else if b % 2 = 0 then 14 else if l < 63 ∧ ¬ b / 2 ^ (l + 1).toNat = 0 then 14 else 0 by unfold zbh; rw [if_neg (by simp)])
  by_cases hl : l < 0 ∨ 1099511627776 < l
  ·have HE2 := Lib.hid (HE.out.trans (if_pos hl))
   clear HE
   rcases (show l < 0 ∨ (0 ≤ l ∧ 1099511627776 < l) by omega) with h | ⟨ha, hb⟩
   all_goals
    clear hl
    go_enter Tryz.func159, Tryz.ntmps159
    go_wp2_with fail
    go_ret
    exact ⟨zcZ HE2.out.symm, by (repeat' (first | exact Below.refl _ _ | assumption | refine ziD ?_ qP | refine zfD ?_ _ | refine ziE ?_ | refine zfC ?_ _ | refine bset ?_ ?_ _ | (show _ ≤ _; simp; omega) | (simp; done)))⟩
  ·have hla : 0 ≤ l := qk
   have hlb : l ≤ 1099511627776 := qk
   have HA := zeJ b hb0 hb1
   rcases (show b % 2 = 0 ∨ b % 2 = 1 by omega) with h2 | h2
   ·have HE2 := Lib.hid (show zbh true l b = 14 by rw [HE.out, if_neg hl, if_pos h2])
    have hd : (bits .and .u64 b 1 != 1) = true := by rw [show bits .and .u64 b 1 = 0 from HA.trans h2]; rfl
    clear hl HA h2
    go_enter Tryz.func159, Tryz.ntmps159
    go_wp2_with fail
    go_ret
    exact ⟨zcZ HE2.out.symm, by (repeat' (first | exact Below.refl _ _ | assumption | refine ziD ?_ qP | refine zfD ?_ _ | refine ziE ?_ | refine zfC ?_ _ | refine bset ?_ ?_ _ | (show _ ≤ _; simp; omega) | (simp; done)))⟩
   ·have HE2 := Lib.hid (show zbh true l b = if l < 63 ∧ ¬ b / 2 ^ (l + 1).toNat = 0 then 14 else 0 by rw [HE.out, if_neg hl, if_neg (by omega)])
    have hd : (bits .and .u64 b 1 != 1) = false := by rw [show bits .and .u64 b 1 = 1 from HA.trans h2]; rfl
    clear hl HA h2
    go_enter Tryz.func159, Tryz.ntmps159
    go_wp2_with fail
    go_loop [3] (fun i => ∃ k : Int, 0 ≤ k ∧ k ≤ 64 ∧ i = .int .i64 k ∧ Hid (∀ j : Nat, j < k → l < j → b / 2 ^ j % 2 = 0)) (fun i => (64 - intOf i).toNat)
    case atStart => exact ⟨0, qk, qk, rfl, fun j hj => by omega⟩
    case round =>
     obtain ⟨k, hk1, hk2, rfl, HK⟩ := hrel
     by_cases hlt : k < 64
     ·have HB := odd64_shr b k.toNat hb0 hb1
      have hr := zic b k.toNat hb0 hb1
      rcases (show b / 2 ^ k.toNat % 2 = 0 ∨ b / 2 ^ k.toNat % 2 = 1 by omega) with hbit | hbit
      ·have hd : (bits .and .u64 (b / 2 ^ k.toNat) 1 == 1) = false := by rw [show bits .and .u64 (b / 2 ^ k.toNat) 1 = 0 from HB.trans hbit]; rfl
       have HB := Lib.hid hbit
       clear hbit hr
       go_wp2
       go_round
       case rel =>
        refine ⟨k + 1, qk, qk, by go_num, fun j hj hlj => ?_⟩
        by_cases hjk : (j : Int) < k
        ·exact HK.out j hjk hlj
        ·obtain rfl : j = k.toNat := qk
         exact HB.out
       case measure => simp [intOf]; omega
      ·have hd : (bits .and .u64 (b / 2 ^ k.toNat) 1 == 1) = true := by rw [show bits .and .u64 (b / 2 ^ k.toNat) 1 = 1 from HB.trans hbit]; rfl
       have HB := Lib.hid hbit
       clear hbit hr
       by_cases hlk : l < k
       ·go_wp2
        go_ret
        exact ⟨zcZ (by rw [HE2.out, if_pos (bits_high' l b k.toNat hb0 hla (by omega) (by omega) HB.out)]), by (repeat' (first | exact Below.refl _ _ | assumption | refine ziD ?_ qP | refine zfD ?_ _ | refine ziE ?_ | refine zfC ?_ _ | refine bset ?_ ?_ _ | (show _ ≤ _; simp; omega) | (simp; done)))⟩
       ·go_wp2
        go_round
        case rel =>
         refine ⟨k + 1, qk, qk, by go_num, fun j hj hlj => ?_⟩
         by_cases hjk : (j : Int) < k
         ·exact HK.out j hjk hlj
         ·omega
        case measure => simp [intOf]; omega
     ·obtain rfl : k = 64 := qk
      go_wp2
      go_ret
      exact ⟨zcZ (by rw [HE2.out, if_neg (bits_high l b hb0 hb1 hla (fun j hj hlj => HK.out j (by omega) hlj))]), by (repeat' (first | exact Below.refl _ _ | assumption | refine ziD ?_ qP | refine zfD ?_ _ | refine ziE ?_ | refine zfC ?_ _ | refine bset ?_ ?_ _ | (show _ ≤ _; simp; omega) | (simp; done)))⟩
end Go.Proofs.YtlfjpippeeikdaaGreatDoor
namespace Go.Proofs.YtlfjpippeeikdaaGreatDoor
open Tryz
open Go.RowKit Go.Sort
set_option maxHeartbeats 16000000
set_option maxRecDepth 100000
theorem winCheck_s (s : Bool) (l b : Int) (hb0 : 0 ≤ b) (hb1 : b < 18446744073709551616) (hl0 : -9223372036854775808 ≤ l) (hl1 : l < 9223372036854775808) : Fn prog 152 [.agg [qf s, qd l, .p (.v (.int .u64 b))]] (qd (zbh s l b)) [] :=
 zfv rfl (fun _ _ _ => za3 rfl) (winCheck_g s l b hb0 hb1 hl0 hl1)
theorem refWinFault_s (s : Bool) (l b : Int) (hb0 : 0 ≤ b) (hb1 : b < 18446744073709551616) (hl0 : -9223372036854775808 ≤ l) (hl1 : l < 9223372036854775808) : Fn prog 159 [.agg [qf s, qd l, .p (.v (.int .u64 b))]] (qd (zbh s l b)) [] :=
 zfv rfl (fun _ _ _ => za3 rfl) (refWinFault_g s l b hb0 hb1 hl0 hl1)
structure KY where
 live : Bool
 send : ByteArray
 take : ByteArray
 mine : Int
 theirs : Int
 born : Int
 counter : Int
 ss : Bool
 sl : Int
 sb : Int
 first : Bool
def KY.vals (k : KY) : List Value := [.bool k.live, .string k.send, .string k.take, .int .i64 k.mine, .int .i64 k.theirs, .int .i64 k.born, .int .i64 k.counter, .bool k.ss, .int .i64 k.sl, .int .u64 k.sb, .bool k.first]
def KY.pv (k : KY) : List PV := [.v (.bool k.live), qg k.send, qg k.take, qh k.mine, qh k.theirs, qh k.born, qh k.counter, .v (.bool k.ss), qh k.sl, .v (.int .u64 k.sb), .v (.bool k.first)]
def KY.cells (k : KY) : List AV := [qf k.live, qc k.send, qc k.take, qd k.mine, qd k.theirs, qd k.born, qd k.counter, qf k.ss, qd k.sl, .p (.v (.int .u64 k.sb)), qf k.first]
def KY0 : KY := ⟨false, ⟨#[]⟩, ⟨#[]⟩, 0, 0, 0, 0, false, 0, 0, false⟩
structure KY.OK (k : KY) : Prop where
 sb0 : 0 ≤ k.sb
 sb1 : k.sb < 18446744073709551616
 sl0 : -9223372036854775808 ≤ k.sl
 sl1 : k.sl < 9223372036854775808
 m0 : -9223372036854775808 ≤ k.mine
 m1 : k.mine ≤ 9223372036854775807
 t0 : -9223372036854775808 ≤ k.theirs
 t1 : k.theirs ≤ 9223372036854775807
 b0 : -9223372036854775808 ≤ k.born
 b1 : k.born ≤ 9223372036854775807
 c0 : -9223372036854775808 ≤ k.counter
 c1 : k.counter ≤ 9223372036854775807
 s0 : k.send.size ≤ 140737488351232
 s1 : k.take.size ≤ 140737488351232
theorem KY0.ok : KY0.OK := by constructor <;> decide
noncomputable def KY.zero (k : KY) : Bool := eqL k.vals KY0.vals
def KY.bad (k : KY) : Bool := (((((((decide (k.mine < 1) || decide (4294967295 < k.mine)) || decide (k.theirs < 1)) || decide (4294967295 < k.theirs)) || decide (k.born < 0)) || decide (1099511627776 < k.born)) || decide (k.counter < 0)) || decide (1099511627776 < k.counter))
noncomputable def kE (k : KY) : Int :=
 if k.live = false then (if k.zero = true then 0 else 14)
 else if keyE k.send ≠ 0 then keyE k.send else if keyE k.take ≠ 0 then keyE k.take else if k.bad = true then 4 else zbh k.ss k.sl k.sb
theorem kE_live {k : KY} (h : kE k = 0) (hl : k.live = true) : keyE k.send = 0 ∧ keyE k.take = 0 ∧ k.bad = false ∧ zbh k.ss k.sl k.sb = 0 := by
 unfold kE at h
 rw [if_neg (by simp [hl])] at h
 by_cases h1 : keyE k.send = 0
 ·rw [if_neg (by simp [h1])] at h
  by_cases h2 : keyE k.take = 0
  ·rw [if_neg (by simp [h2])] at h
   by_cases h3 : k.bad = true
   ·rw [if_pos h3] at h; omega
   ·rw [if_neg h3] at h
    exact ⟨h1, h2, by simpa using h3, h⟩
  ·rw [if_pos h2] at h; exact absurd h h2
 ·rw [if_pos h1] at h; exact absurd h h1
theorem kE_bounds {k : KY} (h : kE k = 0) (hl : k.live = true) : 1 ≤ k.mine ∧ k.mine ≤ 4294967295 ∧ 1 ≤ k.theirs ∧ k.theirs ≤ 4294967295 ∧ 0 ≤ k.counter ∧ k.counter ≤ 1099511627776 ∧ 0 ≤ k.born ∧ k.born ≤ 1099511627776 := by
 have h3 := (kE_live h hl).2.2.1
 unfold KY.bad at h3
 simp at h3
 omega
theorem KY.eqL_iff {a b : KY} : eqL a.vals b.vals = true ↔ a = b := by
 rw [zaP]
 constructor
 ·intro h
  cases a; cases b
  simpa [KY.vals] using h
 ·intro h; rw [h]
theorem KY.zero_iff {k : KY} : k.zero = true ↔ k = KY0 := KY.eqL_iff
theorem kcheck_s (k : KY) (ok : k.OK) : Fn prog 104 [.agg k.cells] (qd (kE k)) [] := by
 have hW := winCheck_s k.ss k.sl k.sb ok.sb0 ok.sb1 ok.sl0 ok.sl1
 refine fnI fun w0 A => ?_
 refine G [12, 9, 0] ?_
 refine cX ?_ ?_ <;> intro h
 ·exact jaE
 have hl : k.live = true := by simpa using h
 clear h
 have hE : kE k = if keyE k.send ≠ 0 then keyE k.send else if keyE k.take ≠ 0 then keyE k.take else if k.bad = true then 4 else zbh k.ss k.sl k.sb := by unfold kE; rw [if_neg (by simp [hl])]
 rw [hE]
 refine G [8] ?_
 refine zaa (xs := [qc k.send, qc k.take]) (zfI (es := [qc k.send, qc k.take]) underlying209 zr209 rfl sz9 qm) qH rfl ?_
 refine G [3] ?_
 refine zae (fun m st => ∃ i : Nat, m + i = 2 ∧ (1 ≤ i → keyE k.send = 0) ∧ (2 ≤ i → keyE k.take = 0) ∧ st = St.of [(1, .ref 1 0), (16, .agg [qc k.send, qc k.take]), (17, qd i)] [(1, .box 53 k.cells)]) 2 ?_ ?_
 ·refine ⟨_, zad id _ _ ?_ ?_ rfl, 0, qk, qk, qk, rfl⟩
  ·exact ja5
  ·exact ⟨⟨rfl, rfl⟩, trivial⟩
 rintro m st ⟨i, hi, hi1, hi2, rfl⟩
 refine G [5] ?_
 refine cX ?_ ?_ <;> intro h
 ·have hlt : i < 2 := by simp at h; omega
  clear h
  obtain ⟨x, hx, hxa, hxb⟩ : ∃ x : ByteArray, [AV.p (qg k.send), AV.p (qg k.take)][i]? = some (qc x) ∧ (i = 0 → x = k.send) ∧ (i = 1 → x = k.take) := by
   match i, hlt with
   | 0, _ => exact ⟨k.send, rfl, fun _ => rfl, qk⟩
   | 1, _ => exact ⟨k.take, rfl, qk, fun _ => rfl⟩
  refine G [5] ?_
  refine zaa (zfH underlying209 sz9 U9 rfl qk qk qO) rfl rfl ?_
  refine G [5] ?_
  refine cV (zbW x) ?_
  refine jcS ?_
  refine cX ?_ ?_ <;> intro h
  ·have hne : keyE x ≠ 0 := by simpa using h
   have hE2 : (if keyE k.send ≠ 0 then keyE k.send else if keyE k.take ≠ 0 then keyE k.take else if k.bad = true then 4 else zbh k.ss k.sl k.sb) = keyE x := by
    match i, hlt with
    | 0, _ => rw [hxa rfl] at hne ⊢; rw [if_pos hne]
    | 1, _ => rw [hxb rfl] at hne ⊢; rw [if_neg (by simp [hi1 (by omega)]), if_pos hne]
   rw [hE2]
   refine jcV ?_
   exact yE
  ·have he : keyE x = 0 := by simpa using h
   refine jcQ ?_
   refine ⟨m - 1, qk, _, zad id _ _ ?_ ?_ rfl, i + 1, qk, ?_, ?_, rfl⟩
   ·exact ja5
   ·exact ⟨⟨rfl, rfl⟩, trivial⟩
   ·intro _
    by_cases h0 : i = 0
    ·rw [← hxa h0]; exact he
    ·exact hi1 qk
   ·intro _
    rw [← hxb (by omega)]; exact he
 have hge : i = 2 := by simp at h; omega
 clear h
 subst hge
 have ha := hi1 qk
 have hb := hi2 qk
 rw [if_neg (by simp [ha]), if_neg (by simp [hb])]
 clear hE
 refine G [11, 2, 4, 2, 4, 2, 4, 2, 4, 2, 4, 2, 4, 2, 1, 9, 0] ?_
 refine cX ?_ ?_ <;> intro h
 ·have h' : k.bad = true := h
  rw [if_pos h']
  refine jcQ ?_
  exact yE
 ·have h' : k.bad = false := h
  rw [if_neg (by simp [h'])]
  refine G [5] ?_
  refine cV hW ?_
  refine jdc ?_
  exact yE
theorem idx_s (n : Int) : Fn prog 158 [qd n] (qf (decide (0 < n) && decide (n < 4294967296))) [] := by
 refine fnI fun w0 A => ?_
 refine G [11, 2, 3, 9, 0] ?_
 exact yE
theorem refKFault_s (k : KY) (ok : k.OK) : Fn prog 118 [.agg k.cells] (qd (kE k)) [] := by
 have hW := refWinFault_s k.ss k.sl k.sb ok.sb0 ok.sb1 ok.sl0 ok.sl1
 refine fnI fun w0 A => ?_
 refine G [12, 9, 0] ?_
 refine cX ?_ ?_ <;> intro h
 ·exact jaE
 have hl : k.live = true := by simpa using h
 clear h
 have hE : kE k = if keyE k.send ≠ 0 then keyE k.send else if keyE k.take ≠ 0 then keyE k.take else if k.bad = true then 4 else zbh k.ss k.sl k.sb := by unfold kE; rw [if_neg (by simp [hl])]
 rw [hE]
 refine G [6] ?_
 refine cV (zbJ k.send) ?_
 refine jcS ?_
 refine cX ?_ ?_ <;> intro h
 ·have hne : keyE k.send ≠ 0 := by simpa using h
  rw [if_pos hne]
  refine jcV ?_
  exact yE
 have ha : keyE k.send = 0 := by simpa using h
 clear h
 rw [if_neg (by simp [ha])]
 refine G [6] ?_
 refine cV (zbJ k.take) ?_
 refine jcS ?_
 refine cX ?_ ?_ <;> intro h
 ·have hne : keyE k.take ≠ 0 := by simpa using h
  rw [if_pos hne]
  refine jcV ?_
  exact yE
 have hb : keyE k.take = 0 := by simpa using h
 clear h
 rw [if_neg (by simp [hb])]
 clear hE
 have hbad2 : k.bad = ((((((!(decide (0 < k.mine) && decide (k.mine < 4294967296))) || (!(decide (0 < k.theirs) && decide (k.theirs < 4294967296)))) || decide (k.born < 0)) || decide (1099511627776 < k.born)) || decide (k.counter < 0)) || decide (1099511627776 < k.counter)) := by
  unfold KY.bad
  rw [qbm]
  simp
  omega
 refine G [11] ?_
 refine cV (idx_s k.mine) ?_
 refine G [2] ?_
 refine mb2 _ rfl rfl (fun hb => (zaI (r := .fn _ _))) (fun _ => trivial) ?_
 refine G [2] ?_
 refine mb2 _ rfl rfl (fun _ => zbl func158 rfl rfl (idx_s k.theirs) qr rfl) (fun _ => trivial) ?_
 refine G [1, 2, 4, 2, 4, 2, 4, 2, 4, 2, 1, 9, 0] ?_
 refine cX ?_ ?_ <;> intro h
 ·have h' : k.bad = true := hbad2.trans h
  rw [if_pos h']
  refine jcQ ?_
  exact yE
 ·have h' : k.bad = false := hbad2.trans h
  rw [if_neg (by simp [h'])]
  refine G [5] ?_
  refine cV hW ?_
  refine jdc ?_
  exact yE
end Go.Proofs.YtlfjpippeeikdaaGreatDoor
namespace Go.Proofs.YtlfjpippeeikdaaGreatDoor
open Go.RowKit Go.Sort
set_option maxRecDepth 100000
theorem KY.of_ty {n : Nat} {ps : List PV} (h : Ty Tryz.prog (n + 3) 53 ps) : ∃ k : KY, k.OK ∧ ps = k.pv := by
 obtain ⟨_, rfl, x0, _, rfl, t0, x1, _, rfl, t1, x2, _, rfl, t2, x3, _, rfl, t3, x4, _, rfl, t4, x5, _, rfl, t5, x6, _, rfl, t6, x7, _, rfl, t7, x8, _, rfl, t8, rfl⟩ := zbi (ts := [4, 9, 9, 3, 3, 3, 3, 51, 4]) qm h
 obtain ⟨_, rfl, y0, _, rfl, u0, y1, _, rfl, u1, y2, _, rfl, u2, rfl⟩ := zbi (ts := [4, 3, 49]) qm t7
 obtain ⟨a0, rfl⟩ := zgP U4 t0
 obtain ⟨a1, rfl, w1⟩ := zbF U9 t1
 obtain ⟨a2, rfl, w2⟩ := zbF U9 t2
 obtain ⟨a3, rfl, w3⟩ := zbz U3 t3
 obtain ⟨a4, rfl, w4⟩ := zbz U3 t4
 obtain ⟨a5, rfl, w5⟩ := zbz U3 t5
 obtain ⟨a6, rfl, w6⟩ := zbz U3 t6
 obtain ⟨a8, rfl⟩ := zgP U4 t8
 obtain ⟨b0, rfl⟩ := zgP U4 u0
 obtain ⟨b1, rfl, v1⟩ := zbz U3 u1
 obtain ⟨b2, rfl, v2⟩ := zbz Tryz.underlying49 u2
 refine ⟨⟨a0, a1, a2, a3, a4, a5, a6, b0, b1, b2, a8⟩, ?_, rfl⟩
 have := ze9 w3; have := ze9 w4; have := ze9 w5; have := ze9 w6; have := ze9 v1; have := wf_u64 v2
 exact jcF
structure HS where
 lv : Bool
 mine : Int
 nc : ByteArray
 b : Int
 s : Int
def HS.cells (x : HS) : List AV := [qf x.lv, qd x.mine, qc x.nc, qd x.b, qd x.s]
def HS.pv (x : HS) : List PV := [.v (.bool x.lv), qh x.mine, qg x.nc, qh x.b, qh x.s]
theorem HS.of_ty {n : Nat} {ps : List PV} (h : Ty Tryz.prog (n + 3) 57 ps) : ∃ x : HS, -9223372036854775808 ≤ x.mine ∧ x.mine ≤ 9223372036854775807 ∧ x.nc.size ≤ 140737488351232 ∧ ps = x.pv := by
 obtain ⟨_, rfl, x0, _, rfl, t0, x1, _, rfl, t1, x2, _, rfl, t2, x3, _, rfl, t3, x4, _, rfl, t4, rfl⟩ := zbi (ts := [4, 3, 9, 3, 3]) qm h
 obtain ⟨a0, rfl⟩ := zgP U4 t0
 obtain ⟨a1, rfl, w1⟩ := zbz U3 t1
 obtain ⟨a2, rfl, w2⟩ := zbF U9 t2
 obtain ⟨a3, rfl, w3⟩ := zbz U3 t3
 obtain ⟨a4, rfl, w4⟩ := zbz U3 t4
 obtain ⟨q0, q1⟩ := ze9 w1
 exact ⟨⟨a0, a1, a2, a3, a4⟩, q0, q1, w2, rfl⟩
end Go.Proofs.YtlfjpippeeikdaaGreatDoor
