/- A region that draws its order, whose first n operations only read or call quietly (in a class C of worlds), and whose last operations come in one forced order: the first n are walked once, in the order of the text, the rest as a list. Put together from the kit's two theorems (quiet regions; still regions with a tail). What == and != give on the structs of package api, field by field. What the small functions of package net, and the references of them, compute: contracts. What Has, Holds of package net, and NetFault, NetOf, NetHas, NetHolds of its reference, compute: contracts. What NetOf, NetHas, NetHolds of the reference compute: contracts. The law NetChecks, walked; Compare, NetOrder and the law NetHolds. Compare of package net, NetOrder of its reference; the law NetHolds walked. net.Check and the reference's NetFault, over data. -/
import Derived.StillTail
import Derived.Lib.QuietBelow
import Derived.BigQuiet
import Derived.Test.YtkdfdcodkeclmaaGreatDoorProg
import Derived.Test.YtkdfdcodkeclmaaGreatDoorSLib
import Derived.WalkKit
import Derived.Laws.StructEq
import Derived.Deep.QuietTactic
import Derived.StillTailTactics
import Derived.Deep.RegionHeld3
import Derived.Test.YtkdfdcodkeclmaaGreatDoorSMa4
namespace Go.Proofs.YtkdfdcodkeclmaaGreatDoor
open Tryz
open Go.RowKit Go.Sort
section
variable {P : Program} {ops : Array Oper} {md : Region.Mode} {C : World → Prop}
def zfq (P : Program) (md : Region.Mode) (ops : Array Oper) (C : World → Prop) (n : Nat) (L : Array Bool → Act → Prop) : Nat → Array Bool → Act → Prop
 | 0, listed, a => L listed a
 | f + 1, listed, a =>
  Region.ready md ops listed ≠ [] ∧ ∀ i ∈ Region.ready md ops listed, i < n ∧ qOp P ops C i (zfq P md ops C n L f (listed.setIfInBounds i true)) a
theorem zdE {n g : Nat} {L : Array Bool → Act → Prop} {Q' : Exit → Act → World → Prop} (hL : ∀ listed a w, C w → L listed a → wpAny P md ops Q' g listed a w) :
  ∀ (f : Nat) (listed : Array Bool) (a : Act) (w : World), C w → zfq P md ops C n L f listed a → wpAny P md ops Q' (f + g) listed a w
 | 0, listed, a, w, hw, h => by rw [Nat.zero_add]; exact hL _ _ _ hw h
 | f + 1, listed, a, w, hw, h => by
  rw [show f + 1 + g = (f + g) + 1 by omega]
  exact ⟨fun h0 => absurd h0 h.1, fun i hi => wpOp_of_qOp hw (fun a' w' hw' h' => zdE hL f _ a' w' hw' h') (h.2 i hi).2⟩
theorem wpAnyLQ_first {n i : Nat} {oi : Oper} {v : Value} {L : Array Bool → Act → Prop} (hi : ops[i]? = some oi) (hsel : ∀ (j : Nat) (o : Oper) cs b, ops[j]? = some o → o.op ≠ .select cs b)
  (hs : Region.sinkB md ops n = true) (hc : Region.chainB md ops n = true) (hn : n < ops.size) (hin : i < n)
  (hdone : ∀ listed a, L listed a → ∀ j ∈ Region.ready md ops listed, n ≤ j) :
  ∀ (f : Nat) (listed : Array Bool) (a : Act), HeadInv md ops n listed →
   (∀ j oj, ops[j]? = some oj → j ≠ i → listed.getD j true = false → (∀ e ∈ oj.after, Region.binds md e = true → e.on ≠ i) → oi.apart ops oj = true) →
   i ∈ Region.ready md ops listed → YieldsIn P ops C oi v a →
   zfq P md ops C n L f (listed.setIfInBounds i true) (a.put oi.dst v) → zfq P md ops C n L (f + 1) listed a := by
 intro f
 induction f with
 | zero =>
  intro listed a inv _ hr hy H
  have hun := (mem_ready.1 hr).1
  refine ⟨fun h => (by rw [h] at hr; cases hr), fun j hj => ?_⟩
  have hjn : j < n := by
   rcases Nat.lt_or_ge j n with h | h
   ·exact h
   ·exact absurd hj (tail_waits hs hc hn inv _ i rfl hin hun j h)
  refine ⟨hjn, ?_⟩
  by_cases hji : j = i
  ·subst hji; exact hy.qOp hi H
  ·have := hdone _ _ H j (ready_mono hj hji)
   omega
 | succ f ih =>
  intro listed a inv hfree hr hy H
  have hun := (mem_ready.1 hr).1
  refine ⟨fun h => (by rw [h] at hr; cases hr), fun j hj => ?_⟩
  have hjn : j < n := by
   rcases Nat.lt_or_ge j n with h | h
   ·exact h
   ·exact absurd hj (tail_waits hs hc hn inv _ i rfl hin hun j h)
  refine ⟨hjn, ?_⟩
  by_cases hji : j = i
  ·subst hji; exact hy.qOp hi H
  ·have h1 := (H.2 j (ready_mono hj hji)).2
   obtain ⟨hjun, oj, hoj, hall⟩ := mem_ready.1 hj
   have hnot : ∀ e ∈ oj.after, Region.binds md e = true → e.on ≠ i := fun e he hb heq => by
    have h1 := hall e he hb
    rw [heq, getD_both hun] at h1
    cases h1
   have h2 := qOp_put hoj (hfree j oj hoj hji hjun hnot) (fun cs b => hsel i oi cs b hi) (fun cs b => hsel j oj cs b hoj) hy h1
   have hfree' : ∀ k ok, ops[k]? = some ok → k ≠ i → (listed.setIfInBounds j true).getD k true = false →
     (∀ e ∈ ok.after, Region.binds md e = true → e.on ≠ i) → oi.apart ops ok = true := fun k ok hk hki hun hno => by
    refine hfree k ok hk hki ?_ hno
    by_cases hjk : j = k
    ·subst hjk; exact hjun
    ·rw [getD_set_ne true hjk] at hun; exact hun
   refine qOp_mono (fun a' h3 => ih (listed.setIfInBounds j true) a' (inv.set hj hjn) hfree' (ready_mono hr (Ne.symm hji)) h3.1 ?_) h2
   rw [Array.setIfInBounds_comm _ _ hji]
   exact h3.2
theorem zfp {n g : Nat} {Lq : Act → Prop} (hsel : Region.noSelect ops = true) (hs : Region.sinkB md ops n = true) (hc : Region.chainB md ops n = true) (hn : n < ops.size) :
  ∀ (l : List Oper) (k : Nat) (listed : Array Bool) (a : Act), (∀ j, j < l.length → l[j]? = ops[k + j]?) → k + l.length = n → HeadInv md ops n listed →
  Region.lexHead md ops g l.length k listed = true → wpQuiet P ops C Lq l a →
  zfq P md ops C n (fun listed' a' => Region.seqB md ops g n listed' = true ∧ Lq a') l.length listed a
 | [], k, listed, a, _, hk, _, hB, h => by
  have : k = n := by simpa using hk
  subst this
  exact ⟨by simpa [Region.lexHead] using hB, h⟩
 | o :: l, k, listed, a, hl, hk, inv, hB, h => by
  have h0 : ops[k]? = some o := by simpa using (hl 0 (by simp)).symm
  simp only [List.length_cons, Region.lexHead, Bool.and_eq_true] at hB
  obtain ⟨⟨hr, hf⟩, hB'⟩ := hB
  have hkn : k < n := by simp only [List.length_cons] at hk; omega
  have hr' : k ∈ Region.ready md ops listed := by simpa using hr
  have hst : qOp P ops C k (wpQuiet P ops C Lq l) a := by unfold qOp; simp only [h0]; exact h
  obtain ⟨v, hy, hK⟩ := yieldsIn_of_qOp h0 hst
  exact wpAnyLQ_first h0 (Region.noSelect_spec hsel) hs hc hn hkn (fun listed' a' hL => seqB_ready hL.1) l.length listed a inv (Region.free_spec h0 hf) hr' hy
   (zfp hsel hs hc hn l (k + 1) _ _ (fun j hj => by have := hl (j + 1) (by simp; omega); simpa [Nat.add_assoc, Nat.add_comm 1 j] using this) (by simp only [List.length_cons] at hk; omega) (inv.set hr' hkn) hB' hK)
theorem wp_region_quiet_tail {id : Nat} {Q : Exit → Act → World → Prop} {a : Act} {w : World} {l : List Oper} (n : Nat) (hm : P.follows .mixedOrders = true) (hB : Region.lexTailB .any l.toArray n = true)
  (hC : C { w with drawn := w.drawn + 1 })
  (h : wpQuiet P l.toArray C (fun a' => ∀ w', C w' → wpList P l.toArray Q (l.drop n) a' w') (l.take n) a) : (Code.region id l.toArray true).wp P Q a w := by
 simp only [Region.lexTailB, Bool.and_eq_true, decide_eq_true_eq] at hB
 obtain ⟨⟨⟨⟨hsel, hn⟩, hs⟩, hc⟩, hlex⟩ := hB
 have hn' : n < l.length := by simpa using hn
 have htl : (l.take n).length = n := by simp; omega
 have hdl : (l.drop n).length = l.toArray.size - n := by simp
 have inv0 : HeadInv .any l.toArray n (Array.replicate l.toArray.size false) :=
  ⟨by simp, fun j oj _ hl => (by rw [getD_replicate_false] at hl; cases hl), fun t _ ht => getD_in (by simpa using ht) (getD_replicate_false _ _)⟩
 have H := zfp (md := .any) (g := l.toArray.size - n) hsel hs hc hn (l.take n) 0 _ a (fun j hj => by
  have hj' : j < n := by rw [htl] at hj; exact hj
  simp [hj']) (by simpa using htl) inv0 (by rw [htl]; exact hlex) h
 refine wp_region_any hm ?_
 have := zdE (Q' := Q) (g := l.toArray.size - n) (fun listed a' w' hw hL => by
  have := wpAny_of_seq (md := .any) (Q' := Q) (l.drop n) n listed a' w' (fun j => by simp [List.getElem?_drop]) (by rw [hdl]; exact hL.1) (hL.2 w' hw)
  rwa [hdl] at this) _ _ _ _ hC H
 rw [htl, show n + (l.toArray.size - n) = l.toArray.size by omega] at this
 exact this
theorem wp_quietb_tail {id : Nat} {Q : Exit → Act → World → Prop} {a : Act} {w : World} {l : List Oper} (n : Nat) (hm : P.follows .mixedOrders = true) (hB : Region.lexTailB .any l.toArray n = true)
  (h : wpQuiet P l.toArray (fun w' => ∃ p : Regrown, w' = grow (redrawn w p.d) p.os) (fun a' => ∀ w1, Below w.heap.size w w1 → wpList P l.toArray Q (l.drop n) a' w1) (l.take n) a) : (Code.region id l.toArray true).wp P Q a w := by
 refine wp_region_quiet_tail (C := fun w' => ∃ p : Regrown, w' = grow (redrawn w p.d) p.os) n hm hB ⟨⟨w.drawn + 1, #[]⟩, by rw [grow_empty]; rfl⟩ ?_
 have e : (fun a' : Act => ∀ w1, Below w.heap.size w w1 → wpList P l.toArray Q (l.drop n) a' w1) = (fun a' => ∀ w', (∃ p : Regrown, w' = grow (redrawn w p.d) p.os) → wpList P l.toArray Q (l.drop n) a' w') := by
  funext a'
  apply propext
  constructor
  ·rintro h w' ⟨p, rfl⟩
   exact h _ (below_regrown w p.d p.os)
  ·intro h w1 hb
   exact h _ (regrown_of_below hb)
 rw [e] at h
 exact h
end
end Go.Proofs.YtkdfdcodkeclmaaGreatDoor
namespace Go.Proofs.YtkdfdcodkeclmaaGreatDoor
open Tryz
open Go.RowKit
end Go.Proofs.YtkdfdcodkeclmaaGreatDoor
namespace Go.Proofs.YtkdfdcodkeclmaaGreatDoor
open Tryz
open Go.RowKit
def maskI (n : Int) : Int := 4294967296 - 2 ^ (32 - n).toNat
theorem maskI_raw (n : Int) (h0 : 0 ≤ n) (h1 : n ≤ 32) : 4294967295 * 2 ^ (32 - n).toNat % 4294967296 = maskI n := by
 unfold maskI
 rcases (show ∃ k : Nat, k ≤ 32 ∧ n = 32 - k from ⟨(32 - n).toNat, by omega, by omega⟩) with ⟨k, hk, rfl⟩
 have e : (32 - (32 - (k : Int))).toNat = k := by omega
 rw [e]
 have hp : (2 : Int) ^ k ≤ 4294967296 := by
  rw [zdz]; have := Nat.pow_le_pow_right (show 0 < 2 by decide) hk; omega
 have hq := zee k
 generalize (2 : Int) ^ k = p at hp hq
 omega
theorem maskI_bd (n : Int) (h0 : 0 ≤ n) (h1 : n ≤ 32) : 0 ≤ maskI n ∧ maskI n ≤ 4294967295 := by
 rw [← maskI_raw n h0 h1]; omega
theorem mask_c (n : Int) (w : World) (h0 : 0 ≤ n) (h1 : n ≤ 32) :
  Calls prog 78 #[.int .i64 n] w fun e w' => e = .returned (.int .u32 (maskI n)) ∧ w = w' := by
 go_enter func78, ntmps78
 go_wp2
 go_ret
 exact ⟨zbH (maskI_raw n h0 h1), rfl⟩
def bitI (a i : Int) : Int := a / 2 ^ (31 - i).toNat % 2
theorem bits_and_one (x : Int) (h0 : 0 ≤ x) (h1 : x < 4294967296) : bits .and .u32 x 1 = x % 2 :=
 zdI x 1 h0 h1 (by omega)
theorem shr_bd (a : Int) (k : Nat) (h2 : 0 ≤ a) (h3 : a < 4294967296) : 0 ≤ a / 2 ^ k ∧ a / 2 ^ k < 4294967296 := by
 obtain ⟨b, rfl⟩ := Int.eq_ofNat_of_zero_le h2
 rw [zdz]
 have h := Nat.div_le_self b (2 ^ k)
 have e : (b : Int) / ((2 ^ k : Nat) : Int) = ((b / 2 ^ k : Nat) : Int) := by simp
 rw [e]
 generalize b / 2 ^ k = c at h
 omega
theorem bit_c (a i : Int) (w : World) (h0 : 0 ≤ i) (h1 : i ≤ 31) (h2 : 0 ≤ a) (h3 : a < 4294967296) :
  Calls prog 90 #[.int .u32 a, .int .i64 i] w fun e w' => e = .returned (.int .u32 (bitI a i)) ∧ w = w' := by
 go_enter func90, ntmps90
 go_wp2
 go_ret
 have h := shr_bd a (31 - i).toNat h2 h3
 exact ⟨zbH (bits_and_one _ h.1 h.2), rfl⟩
def zax (a n : Int) : Int := if n < 0 ∨ 32 < n then 4 else if a % 2 ^ (32 - n).toNat = 0 then 0 else 3
theorem andNot_mask (a n : Int) (h0 : 0 ≤ n) (h1 : n ≤ 32) (h2 : 0 ≤ a) (h3 : a < 4294967296) : bits .andNot .u32 a (maskI n) = a % 2 ^ (32 - n).toNat := by
 have hb := maskI_bd n h0 h1
 have hq := zee (32 - n).toNat
 have e : (4294967295 - maskI n) = 2 ^ (32 - n).toNat - 1 := by unfold maskI; omega
 have h := zdI a (32 - n).toNat h2 h3 (by omega)
 rw [← h, ← e, u32_andNot a _ h2 h3 hb.1 (by omega), u32_and a _ h2 h3 (by omega) (by omega)]
 congr 2
 omega
theorem check_c (a n : Int) (w : World) (h2 : 0 ≤ a) (h3 : a < 4294967296) :
  Calls prog 47 #[.agg #[.int .u32 a, .int .i64 n]] w fun e w' => e = .returned (.int .i64 (zax a n)) ∧ Below w.heap.size w w' := by
 by_cases hn : n < 0 ∨ 32 < n
 ·have hf : zax a n = 4 := by unfold zax; rw [if_pos hn]
  have HF := Lib.hid hf
  clear hf
  rcases (show n < 0 ∨ (0 ≤ n ∧ 32 < n) by omega) with h | ⟨ha, hb⟩
  all_goals
   clear hn
   go_enter func47, ntmps47
   go_wp2_with fail
   go_ret
   exact ⟨zbH HF.out.symm, (Below.refl _ _).alloc (Nat.le_refl _) _⟩
 ·have ha : 0 ≤ n := by omega
  have hb : n ≤ 32 := by omega
  have HF := Lib.hid (show zax a n = if a % 2 ^ (32 - n).toNat = 0 then 0 else 3 by unfold zax; rw [if_neg hn])
  have HA := Lib.hid (andNot_mask a n ha hb h2 h3)
  clear hn
  go_enter func47, ntmps47
  go_wp2_with fail
  go_quiet ((go_at_call 78; exact Calls.quiet_of_same ((mask_c n _ ha hb).mono fun _ _ h => ⟨h.1, h.2.symm⟩)))
  rw [HA.out]
  go_wp2
  ·have ht : (a % 2 ^ (32 - n).toNat != 0) = true := by assumption
   go_ret
   exact ⟨zbH (by rw [HF.out, if_neg (by simpa using ht)]), zde ((Below.refl _ _).alloc (Nat.le_refl _) _) _⟩
  ·have ht : (a % 2 ^ (32 - n).toNat != 0) = false := by assumption
   go_ret
   exact ⟨zbH (by rw [HF.out, if_pos (by simpa using ht)]), zde ((Below.refl _ _).alloc (Nat.le_refl _) _) _⟩
end Go.Proofs.YtkdfdcodkeclmaaGreatDoor
namespace Go.Proofs.YtkdfdcodkeclmaaGreatDoor
open Tryz
open Go.RowKit Go.Sort
theorem zfD {a n : Int} (h : zax a n = 0) : 0 ≤ n ∧ n ≤ 32 ∧ a % 2 ^ (32 - n).toNat = 0 := by
 unfold zax at h
 split at h
 ·simp at h
 ·split at h
  ·exact ⟨by omega, by omega, by assumption⟩
  ·simp at h
theorem check_g (a n : Int) (h2 : 0 ≤ a) (h3 : a < 4294967296) : Gives prog 47 #[.agg #[.int .u32 a, .int .i64 n]] (.int .i64 (zax a n)) :=
 fun w => check_c a n w h2 h3
theorem low_step (a k : Int) (h0 : 0 ≤ k) (h1 : k ≤ 31) (h2 : 0 ≤ a) : a % 2 ^ (32 - k).toNat = bitI a k * 2 ^ (31 - k).toNat + a % 2 ^ (32 - (k + 1)).toNat := by
 unfold bitI
 obtain ⟨j, hj⟩ : ∃ j : Nat, (31 - k).toNat = j := ⟨_, rfl⟩
 have e1 : (32 - k).toNat = j + 1 := by omega
 have e2 : (32 - (k + 1)).toNat = j := by omega
 rw [e1, e2, hj]
 obtain ⟨x, rfl⟩ := Int.eq_ofNat_of_zero_le h2
 have h := Nat.mod_mul (x := x) (a := 2 ^ j) (b := 2)
 rw [← Nat.pow_succ] at h
 have h' := congrArg (fun n : Nat => (n : Int)) h
 simp only [Int.natCast_emod, Int.natCast_add, Int.natCast_mul, Int.natCast_ediv, Int.natCast_pow] at h'
 have e3 : ((2 : Nat) : Int) = 2 := rfl
 rw [e3] at h'
 rw [h', Int.mul_comm, Int.add_comm]
theorem bitI_01 (a k : Int) : bitI a k = 0 ∨ bitI a k = 1 := by unfold bitI; omega
theorem refFault_g (a n : Int) (h2 : 0 ≤ a) (h3 : a < 4294967296) : Gives prog 57 #[.agg #[.int .u32 a, .int .i64 n]] (.int .i64 (zax a n)) := by
 intro w
 by_cases hn : n < 0 ∨ 32 < n
 ·have HF := Lib.hid (show zax a n = 4 by unfold zax; rw [if_pos hn])
  rcases (show n < 0 ∨ (0 ≤ n ∧ 32 < n) by omega) with h | ⟨ha, hb⟩
  all_goals
   clear hn
   go_enter func57, ntmps57
   go_wp2_with fail
   go_ret
   exact ⟨zbH HF.out.symm, by (repeat' (first | exact Below.refl _ _ | assumption | refine bstep ?_ (by assumption) | refine zfZ ?_ _ | refine bdrew ?_ | refine zfX ?_ _ | refine bset ?_ ?_ _ | (show _ ≤ _; simp; omega) | (simp; done)))⟩
 ·have ha : 0 ≤ n := by omega
  have hb : n ≤ 32 := by omega
  have HF := Lib.hid (show zax a n = if a % 2 ^ (32 - n).toNat = 0 then 0 else 3 by unfold zax; rw [if_neg hn])
  clear hn
  go_enter func57, ntmps57
  go_wp2_with fail
  go_loop [3] (fun i => ∃ k : Int, n ≤ k ∧ k ≤ 32 ∧ i = .int .i64 k ∧ Hid (a % 2 ^ (32 - n).toNat = a % 2 ^ (32 - k).toNat)) (fun i => (32 - intOf i).toNat)
  case atStart => exact ⟨n, by omega, by omega, rfl, rfl⟩
  case round =>
   obtain ⟨k, hk1, hk2, rfl, HK⟩ := hrel
   by_cases hlt : k < 32
   ·have h0k : 0 ≤ k := by omega
    have h31 : k ≤ 31 := by omega
    have HL := Lib.hid (low_step a k h0k h31 h2)
    rcases bitI_01 a k with hbit | hbit
    ·have hd : (bitI a k == 1) = false := by rw [hbit]; rfl
     have HB := Lib.hid hbit
     clear hbit
     go_wp2_with (go_at_call 90; refine (bit_c a k _ h0k h31 h2 h3).mono ?_; rintro e w' ⟨rfl, rfl⟩)
     go_round
     case rel => exact ⟨k + 1, by omega, by omega, by go_num, by show _ = _; rw [HK.out, HL.out, HB.out]; simp⟩
     case measure => simp [intOf]; omega
    ·have hd : (bitI a k == 1) = true := by rw [hbit]; rfl
     have HB := Lib.hid hbit
     clear hbit
     go_wp2_with (go_at_call 90; refine (bit_c a k _ h0k h31 h2 h3).mono ?_; rintro e w' ⟨rfl, rfl⟩)
     go_ret
     refine ⟨zbH ?_, by (repeat' (first | exact Below.refl _ _ | assumption | refine bstep ?_ (by assumption) | refine zfZ ?_ _ | refine bdrew ?_ | refine zfX ?_ _ | refine bset ?_ ?_ _ | (show _ ≤ _; simp; omega) | (simp; done)))⟩
     rw [HF.out, HK.out, HL.out, HB.out, if_neg]
     have hp := zee (31 - k).toNat
     have hq := Int.emod_nonneg a (show (2 : Int) ^ (32 - (k + 1)).toNat ≠ 0 from by have := zee (32 - (k + 1)).toNat; omega)
     omega
   ·obtain rfl : k = 32 := by omega
    go_wp2
    go_ret
    exact ⟨zbH (by rw [HF.out, HK.out]; simp [Int.emod_one]), by (repeat' (first | exact Below.refl _ _ | assumption | refine bstep ?_ (by assumption) | refine zfZ ?_ _ | refine bdrew ?_ | refine zfX ?_ _ | refine bset ?_ ?_ _ | (show _ ≤ _; simp; omega) | (simp; done)))⟩
end Go.Proofs.YtkdfdcodkeclmaaGreatDoor
namespace Go.Proofs.YtkdfdcodkeclmaaGreatDoor
open Tryz
open Go.RowKit Go.Sort
end Go.Proofs.YtkdfdcodkeclmaaGreatDoor
namespace Go.Proofs.YtkdfdcodkeclmaaGreatDoor
open Tryz
open Go.RowKit Go.Sort
set_option linter.unusedVariables false
end Go.Proofs.YtkdfdcodkeclmaaGreatDoor
namespace Go.Proofs.YtkdfdcodkeclmaaGreatDoor
open Tryz
open Go.RowKit Go.Sort
set_option linter.unusedVariables false
def ord3 (a b : Int) : Int := if a < b then -1 else if b < a then 1 else 0
def zbj (a n b m : Int) : Int := if a = b then ord3 n m else ord3 a b
theorem cmpU_g (a b : Int) : Gives prog 106 #[.int .u32 a, .int .u32 b] (.int .i64 (ord3 a b)) := by
 intro w
 have HE := Lib.hid (show ord3 a b = if a < b then -1 else if b < a then 1 else 0 from rfl)
 go_enter func106, ntmps106
 go_wp2
 all_goals (go_ret; exact ⟨zbH (by rw [HE.out]; (repeat' split) <;> simp_all <;> omega), by (repeat' (first | exact Below.refl _ _ | assumption | refine bstep ?_ (by assumption) | refine zfZ ?_ _ | refine bdrew ?_ | refine zfX ?_ _ | refine bset ?_ ?_ _ | (show _ ≤ _; simp; omega) | (simp; done)))⟩)
theorem cmpI_g (a b : Int) : Gives prog 107 #[.int .i64 a, .int .i64 b] (.int .i64 (ord3 a b)) := by
 intro w
 have HE := Lib.hid (show ord3 a b = if a < b then -1 else if b < a then 1 else 0 from rfl)
 go_enter func107, ntmps107
 go_wp2
 all_goals (go_ret; exact ⟨zbH (by rw [HE.out]; (repeat' split) <;> simp_all <;> omega), by (repeat' (first | exact Below.refl _ _ | assumption | refine bstep ?_ (by assumption) | refine zfZ ?_ _ | refine bdrew ?_ | refine zfX ?_ _ | refine bset ?_ ?_ _ | (show _ ≤ _; simp; omega) | (simp; done)))⟩)
def or2 (x y : Int) : Int := if x = 0 then y else x
theorem or2_c (b : Nat) (x y : Int) (w : World) (h0 : w.cell? ⟨b, 0, none⟩ = some (.int .i64 x)) (h1 : w.cell? ⟨b, 1, none⟩ = some (.int .i64 y)) :
  Calls prog 105 #[.slice (some ⟨b, 0, none⟩) 2 2] w fun e w' => e = .returned (.int .i64 (or2 x y)) ∧ w = w' := by
 by_cases hx : x = 0
 ·have hd : (x != 0) = false := by simp [hx]
  have HX := Lib.hid hx
  clear hx
  by_cases hy : y = 0
  ·have hdy : (y != 0) = false := by simp [hy]
   have HY := Lib.hid hy
   clear hy
   go_enter func105, ntmps105
   go_wp2
   refine wp_loop_rounds 3 ?_
   repeat any_goals (rw [rounds_succ]; go_wp2)
   go_ret
   exact ⟨zbH (by unfold or2; rw [HX.out, HY.out]; simp), rfl⟩
  ·have hdy : (y != 0) = true := by simp [hy]
   have HY := Lib.hid hy
   clear hy
   go_enter func105, ntmps105
   go_wp2
   refine wp_loop_rounds 3 ?_
   repeat any_goals (rw [rounds_succ]; go_wp2)
   go_ret
   exact ⟨zbH (by unfold or2; rw [HX.out]; simp), rfl⟩
 ·have hd : (x != 0) = true := by simp [hx]
  have HX := Lib.hid hx
  clear hx
  go_enter func105, ntmps105
  go_wp2
  refine wp_loop_rounds 3 ?_
  repeat any_goals (rw [rounds_succ]; go_wp2)
  go_ret
  exact ⟨zbH (by unfold or2; rw [if_neg HX.out]), rfl⟩
set_option maxHeartbeats 1000000 in
theorem compare_g (a n b m : Int) : Gives prog 67 #[.agg #[.int .u32 a, .int .i64 n], .agg #[.int .u32 b, .int .i64 m]] (.int .i64 (zbj a n b m)) := by
 intro w
 have HE := Lib.hid (show zbj a n b m = or2 (ord3 a b) (ord3 n m) by
  unfold zbj or2 ord3; (repeat' split) <;> simp_all <;> omega)
 go_enter func67, ntmps67
 go_wp2_with fail
 have hcq := grow_cell ((w.alloc (Obj.cells #[.int .u32 a, .int .i64 n] 27)).alloc (Obj.cells #[.int .u32 b, .int .i64 m] 27))
 refine wp_quietb_tail 10 (by kernel_rfl) (by kernel_rfl) ?_; simp only [List.take_succ_cons, List.take_zero, List.drop_succ_cons, List.drop_zero]; (repeat (first | go_big_quiet_step ((first | (go_at_call 106; exact (cmpU_g a b).q) | (go_at_call 107; exact (cmpI_g n m).q))) | quiet_step ((first | (go_at_call 106; exact (cmpU_g a b).q) | (go_at_call 107; exact (cmpI_g n m).q))))); refine wpQuiet_nil ?_
 intro w1 hb_w1
 clear hcq
 go_wp2_with fail
 refine (or2_c w1.heap.size (ord3 a b) (ord3 n m) _ ?_ ?_).mono ?_
 ·simp
 ·simp
 rintro e w2 ⟨rfl, rfl⟩
 go_wp2
 go_ret
 exact ⟨zbH HE.out.symm, by (repeat' (first | exact Below.refl _ _ | assumption | refine bstep ?_ (by assumption) | refine zfZ ?_ _ | refine bdrew ?_ | refine zfX ?_ _ | refine bset ?_ ?_ _ | (show _ ≤ _; simp; omega) | (simp; done)))⟩
set_option maxHeartbeats 1000000 in
theorem order_g (a n b m : Int) : Gives prog 60 #[.agg #[.int .u32 a, .int .i64 n], .agg #[.int .u32 b, .int .i64 m]] (.int .i64 (zbj a n b m)) := by
 intro w
 have HE := Lib.hid (show zbj a n b m = if a = b then (if n < m then -1 else if m < n then 1 else 0) else (if a < b then -1 else if b < a then 1 else 0) from rfl)
 go_enter func60, ntmps60
 go_wp2
 all_goals (go_ret; exact ⟨zbH (by rw [HE.out]; (repeat' split) <;> simp_all <;> omega), by (repeat' (first | exact Below.refl _ _ | assumption | refine bstep ?_ (by assumption) | refine zfZ ?_ _ | refine bdrew ?_ | refine zfX ?_ _ | refine bset ?_ ?_ _ | (show _ ≤ _; simp; omega) | (simp; done)))⟩)
end Go.Proofs.YtkdfdcodkeclmaaGreatDoor
namespace Go.Proofs.YtkdfdcodkeclmaaGreatDoor
open Tryz
open Go.RowKit Go.Sort
set_option linter.unusedVariables false
set_option linter.unusedSimpArgs false
set_option maxRecDepth 100000
def netA (a n : Int) : List AV := [.p (.v (.int .u32 a)), .p (.v (.int .i64 n))]
theorem zfj (a n : Int) (h2 : 0 ≤ a) (h3 : a < 4294967296) : Fn prog 47 [.agg (netA a n)] (.p (.v (.int .i64 (zax a n)))) [] :=
 zfl rfl (fun _ _ _ => za5 rfl) (check_g a n h2 h3)
theorem zek (a n : Int) (h2 : 0 ≤ a) (h3 : a < 4294967296) : Fn prog 57 [.agg (netA a n)] (.p (.v (.int .i64 (zax a n)))) [] :=
 zfl rfl (fun _ _ _ => za5 rfl) (refFault_g a n h2 h3)
end Go.Proofs.YtkdfdcodkeclmaaGreatDoor
