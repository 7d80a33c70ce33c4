/- A region that draws its order, whose first n operations only read or call quietly (in a class C of worlds), and whose last operations come in one forced order: the first n are walked once, in the order of the text, the rest as a list. Put together from the kit's two theorems (quiet regions; still regions with a tail). What == and != give on the structs of package api, field by field. What the small functions of package net, and the references of them, compute: contracts. What Has, Holds of package net, and NetFault, NetOf, NetHas, NetHolds of its reference, compute: contracts. What NetOf, NetHas, NetHolds of the reference compute: contracts. The law NetChecks, walked; Compare, NetOrder and the law NetHolds. Compare of package net, NetOrder of its reference; the law NetHolds walked. net.Check and the reference's NetFault, over data. -/
import Derived.StillTail
import Derived.Lib.QuietBelow
import Derived.BigQuiet
import Derived.Test.YtbjdjclkbjpebaaGreatDoorProg
import Derived.Test.YtbjdjclkbjpebaaGreatDoorSLib
import Derived.WalkKit
import Derived.Laws.StructEq
import Derived.Deep.QuietTactic
import Derived.StillTailTactics
import Derived.Deep.RegionHeld3
import Derived.Test.YtbjdjclkbjpebaaGreatDoorSMa4
namespace Go.Proofs.YtbjdjclkbjpebaaGreatDoor
open Tryz
open Go.RowKit Go.Sort
set_option maxHeartbeats 16000000
section
variable {P : Program} {ops : Array Oper} {md : Region.Mode} {C : World → Prop}
def zgr (P : Program) (md : Region.Mode) (ops : Array Oper) (C : World → Prop) (n : Nat) (L : Array Bool → Act → Prop) : Nat → Array Bool → Act → Prop
 | 0, listed, a => L listed a
 | f + 1, listed, a =>
  Region.ready md ops listed ≠ [] ∧ ∀ i ∈ Region.ready md ops listed, i < n ∧ qOp P ops C i (zgr P md ops C n L f (listed.setIfInBounds i true)) a
theorem zeF {n g : Nat} {L : Array Bool → Act → Prop} {Q' : Exit → Act → World → Prop} (hL : ∀ listed a w, C w → L listed a → wpAny P md ops Q' g listed a w) :
  ∀ (f : Nat) (listed : Array Bool) (a : Act) (w : World), C w → zgr P md ops C n L f listed a → wpAny P md ops Q' (f + g) listed a w
 | 0, listed, a, w, hw, h => by rw [Nat.zero_add]; exact hL _ _ _ hw h
 | f + 1, listed, a, w, hw, h => by
  rw [show f + 1 + g = (f + g) + 1 by omega]
  exact ⟨fun h0 => absurd h0 h.1, fun i hi => wpOp_of_qOp hw (fun a' w' hw' h' => zeF hL f _ a' w' hw' h') (h.2 i hi).2⟩
theorem wpAnyLQ_first {n i : Nat} {oi : Oper} {v : Value} {L : Array Bool → Act → Prop} (hi : ops[i]? = some oi) (hsel : ∀ (j : Nat) (o : Oper) cs b, ops[j]? = some o → o.op ≠ .select cs b)
  (hs : Region.sinkB md ops n = true) (hc : Region.chainB md ops n = true) (hn : n < ops.size) (hin : i < n)
  (hdone : ∀ listed a, L listed a → ∀ j ∈ Region.ready md ops listed, n ≤ j) :
  ∀ (f : Nat) (listed : Array Bool) (a : Act), HeadInv md ops n listed →
   (∀ j oj, ops[j]? = some oj → j ≠ i → listed.getD j true = false → (∀ e ∈ oj.after, Region.binds md e = true → e.on ≠ i) → oi.apart ops oj = true) →
   i ∈ Region.ready md ops listed → YieldsIn P ops C oi v a →
   zgr P md ops C n L f (listed.setIfInBounds i true) (a.put oi.dst v) → zgr P md ops C n L (f + 1) listed a := by
 intro f
 induction f with
 | zero =>
  intro listed a inv _ hr hy H
  have hun := (mem_ready.1 hr).1
  refine ⟨fun h => (by rw [h] at hr; cases hr), fun j hj => ?_⟩
  have hjn : j < n := by
   rcases Nat.lt_or_ge j n with h | h
   ·exact h
   ·exact absurd hj (tail_waits hs hc hn inv _ i rfl hin hun j h)
  refine ⟨hjn, ?_⟩
  by_cases hji : j = i
  ·subst hji; exact hy.qOp hi H
  ·have := hdone _ _ H j (ready_mono hj hji)
   omega
 | succ f ih =>
  intro listed a inv hfree hr hy H
  have hun := (mem_ready.1 hr).1
  refine ⟨fun h => (by rw [h] at hr; cases hr), fun j hj => ?_⟩
  have hjn : j < n := by
   rcases Nat.lt_or_ge j n with h | h
   ·exact h
   ·exact absurd hj (tail_waits hs hc hn inv _ i rfl hin hun j h)
  refine ⟨hjn, ?_⟩
  by_cases hji : j = i
  ·subst hji; exact hy.qOp hi H
  ·have h1 := (H.2 j (ready_mono hj hji)).2
   obtain ⟨hjun, oj, hoj, hall⟩ := mem_ready.1 hj
   have hnot : ∀ e ∈ oj.after, Region.binds md e = true → e.on ≠ i := fun e he hb heq => by
    have h1 := hall e he hb
    rw [heq, getD_both hun] at h1
    cases h1
   have h2 := qOp_put hoj (hfree j oj hoj hji hjun hnot) (fun cs b => hsel i oi cs b hi) (fun cs b => hsel j oj cs b hoj) hy h1
   have hfree' : ∀ k ok, ops[k]? = some ok → k ≠ i → (listed.setIfInBounds j true).getD k true = false →
     (∀ e ∈ ok.after, Region.binds md e = true → e.on ≠ i) → oi.apart ops ok = true := fun k ok hk hki hun hno => by
    refine hfree k ok hk hki ?_ hno
    by_cases hjk : j = k
    ·subst hjk; exact hjun
    ·rw [getD_set_ne true hjk] at hun; exact hun
   refine qOp_mono (fun a' h3 => ih (listed.setIfInBounds j true) a' (inv.set hj hjn) hfree' (ready_mono hr (Ne.symm hji)) h3.1 ?_) h2
   rw [Array.setIfInBounds_comm _ _ hji]
   exact h3.2
theorem zgq {n g : Nat} {Lq : Act → Prop} (hsel : Region.noSelect ops = true) (hs : Region.sinkB md ops n = true) (hc : Region.chainB md ops n = true) (hn : n < ops.size) :
  ∀ (l : List Oper) (k : Nat) (listed : Array Bool) (a : Act), (∀ j, j < l.length → l[j]? = ops[k + j]?) → k + l.length = n → HeadInv md ops n listed →
  Region.lexHead md ops g l.length k listed = true → wpQuiet P ops C Lq l a →
  zgr P md ops C n (fun listed' a' => Region.seqB md ops g n listed' = true ∧ Lq a') l.length listed a
 | [], k, listed, a, _, hk, _, hB, h => by
  have : k = n := by simpa using hk
  subst this
  exact ⟨by simpa [Region.lexHead] using hB, h⟩
 | o :: l, k, listed, a, hl, hk, inv, hB, h => by
  have h0 : ops[k]? = some o := by simpa using (hl 0 (by simp)).symm
  simp only [List.length_cons, Region.lexHead, Bool.and_eq_true] at hB
  obtain ⟨⟨hr, hf⟩, hB'⟩ := hB
  have hkn : k < n := by simp only [List.length_cons] at hk; omega
  have hr' : k ∈ Region.ready md ops listed := by simpa using hr
  have hst : qOp P ops C k (wpQuiet P ops C Lq l) a := by unfold qOp; simp only [h0]; exact h
  obtain ⟨v, hy, hK⟩ := yieldsIn_of_qOp h0 hst
  exact wpAnyLQ_first h0 (Region.noSelect_spec hsel) hs hc hn hkn (fun listed' a' hL => seqB_ready hL.1) l.length listed a inv (Region.free_spec h0 hf) hr' hy
   (zgq hsel hs hc hn l (k + 1) _ _ (fun j hj => by have := hl (j + 1) (by simp; omega); simpa [Nat.add_assoc, Nat.add_comm 1 j] using this) (by simp only [List.length_cons] at hk; omega) (inv.set hr' hkn) hB' hK)
theorem wp_region_quiet_tail {id : Nat} {Q : Exit → Act → World → Prop} {a : Act} {w : World} {l : List Oper} (n : Nat) (hm : P.follows .mixedOrders = true) (hB : Region.lexTailB .any l.toArray n = true)
  (hC : C { w with drawn := w.drawn + 1 })
  (h : wpQuiet P l.toArray C (fun a' => ∀ w', C w' → wpList P l.toArray Q (l.drop n) a' w') (l.take n) a) : (Code.region id l.toArray true).wp P Q a w := by
 simp only [Region.lexTailB, Bool.and_eq_true, decide_eq_true_eq] at hB
 obtain ⟨⟨⟨⟨hsel, hn⟩, hs⟩, hc⟩, hlex⟩ := hB
 have hn' : n < l.length := by simpa using hn
 have htl : (l.take n).length = n := by simp; omega
 have hdl : (l.drop n).length = l.toArray.size - n := by simp
 have inv0 : HeadInv .any l.toArray n (Array.replicate l.toArray.size false) :=
  ⟨by simp, fun j oj _ hl => (by rw [getD_replicate_false] at hl; cases hl), fun t _ ht => getD_in (by simpa using ht) (getD_replicate_false _ _)⟩
 have H := zgq (md := .any) (g := l.toArray.size - n) hsel hs hc hn (l.take n) 0 _ a (fun j hj => by
  have hj' : j < n := by rw [htl] at hj; exact hj
  simp [hj']) (by simpa using htl) inv0 (by rw [htl]; exact hlex) h
 refine wp_region_any hm ?_
 have := zeF (Q' := Q) (g := l.toArray.size - n) (fun listed a' w' hw hL => by
  have := wpAny_of_seq (md := .any) (Q' := Q) (l.drop n) n listed a' w' (fun j => by simp [List.getElem?_drop]) (by rw [hdl]; exact hL.1) (hL.2 w' hw)
  rwa [hdl] at this) _ _ _ _ hC H
 rw [htl, show n + (l.toArray.size - n) = l.toArray.size by omega] at this
 exact this
theorem zdw {id : Nat} {Q : Exit → Act → World → Prop} {a : Act} {w : World} {l : List Oper} (n : Nat) (hm : P.follows .mixedOrders = true) (hB : Region.lexTailB .any l.toArray n = true)
  (h : wpQuiet P l.toArray (fun w' => ∃ p : Regrown, w' = grow (redrawn w p.d) p.os) (fun a' => ∀ w1, Below w.heap.size w w1 → wpList P l.toArray Q (l.drop n) a' w1) (l.take n) a) : (Code.region id l.toArray true).wp P Q a w := by
 refine wp_region_quiet_tail (C := fun w' => ∃ p : Regrown, w' = grow (redrawn w p.d) p.os) n hm hB ⟨⟨w.drawn + 1, #[]⟩, by rw [grow_empty]; rfl⟩ ?_
 have e : (fun a' : Act => ∀ w1, Below w.heap.size w w1 → wpList P l.toArray Q (l.drop n) a' w1) = (fun a' => ∀ w', (∃ p : Regrown, w' = grow (redrawn w p.d) p.os) → wpList P l.toArray Q (l.drop n) a' w') := by
  funext a'
  apply propext
  constructor
  ·rintro h w' ⟨p, rfl⟩
   exact h _ (below_regrown w p.d p.os)
  ·intro h w1 hb
   exact h _ (regrown_of_below hb)
 rw [e] at h
 exact h
end
end Go.Proofs.YtbjdjclkbjpebaaGreatDoor
namespace Go.Proofs.YtbjdjclkbjpebaaGreatDoor
open Tryz
open Go.RowKit
def zho (n : Int) : Int := 4294967296 - 2 ^ (32 - n).toNat
theorem maskI_raw (n : Int) (h0 : 0 ≤ n) (h1 : n ≤ 32) : 4294967295 * 2 ^ (32 - n).toNat % 4294967296 = zho n := by
 unfold zho
 rcases (show ∃ k : Nat, k ≤ 32 ∧ n = 32 - k from ⟨(32 - n).toNat, by omega, by omega⟩) with ⟨k, hk, rfl⟩
 have e : (32 - (32 - (k : Int))).toNat = k := by omega
 rw [e]
 have hp : (2 : Int) ^ k ≤ 4294967296 := by
  rw [zbU]; have := Nat.pow_le_pow_right (show 0 < 2 by decide) hk; omega
 have hq := zdl k
 generalize (2 : Int) ^ k = p at hp hq
 omega
theorem maskI_bd (n : Int) (h0 : 0 ≤ n) (h1 : n ≤ 32) : 0 ≤ zho n ∧ zho n ≤ 4294967295 := by
 rw [← maskI_raw n h0 h1]; omega
theorem mask_c (n : Int) (w : World) (h0 : 0 ≤ n) (h1 : n ≤ 32) :
  Calls prog 132 #[.int .i64 n] w fun e w' => e = .returned (.int .u32 (zho n)) ∧ w = w' := by
 go_enter func132, ntmps132
 go_wp2
 go_ret
 exact ⟨zbs (maskI_raw n h0 h1), rfl⟩
def bitI (a i : Int) : Int := a / 2 ^ (31 - i).toNat % 2
theorem zf2 (x : Int) (h0 : 0 ≤ x) (h1 : x < 4294967296) : bits .and .u32 x 1 = x % 2 :=
 zgt x 1 h0 h1 (by omega)
theorem shr_bd (a : Int) (k : Nat) (h2 : 0 ≤ a) (h3 : a < 4294967296) : 0 ≤ a / 2 ^ k ∧ a / 2 ^ k < 4294967296 := by
 obtain ⟨b, rfl⟩ := Int.eq_ofNat_of_zero_le h2
 rw [zbU]
 have h := Nat.div_le_self b (2 ^ k)
 have e : (b : Int) / ((2 ^ k : Nat) : Int) = ((b / 2 ^ k : Nat) : Int) := by simp
 rw [e]
 generalize b / 2 ^ k = c at h
 omega
theorem bit_c (a i : Int) (w : World) (h0 : 0 ≤ i) (h1 : i ≤ 31) (h2 : 0 ≤ a) (h3 : a < 4294967296) :
  Calls prog 116 #[.int .u32 a, .int .i64 i] w fun e w' => e = .returned (.int .u32 (bitI a i)) ∧ w = w' := by
 go_enter func116, ntmps116
 go_wp2
 go_ret
 have h := shr_bd a (31 - i).toNat h2 h3
 exact ⟨zbs (zf2 _ h.1 h.2), rfl⟩
def zai (a n : Int) : Int := if n < 0 ∨ 32 < n then 4 else if a % 2 ^ (32 - n).toNat = 0 then 0 else 3
theorem zhi (a n : Int) (h0 : 0 ≤ n) (h1 : n ≤ 32) (h2 : 0 ≤ a) (h3 : a < 4294967296) : bits .andNot .u32 a (zho n) = a % 2 ^ (32 - n).toNat := by
 have hb := maskI_bd n h0 h1
 have hq := zdl (32 - n).toNat
 have e : (4294967295 - zho n) = 2 ^ (32 - n).toNat - 1 := by unfold zho; omega
 have h := zgt a (32 - n).toNat h2 h3 (by omega)
 rw [← h, ← e, u32_andNot a _ h2 h3 hb.1 (by omega), u32_and a _ h2 h3 (by omega) (by omega)]
 congr 2
 omega
theorem check_c (a n : Int) (w : World) (h2 : 0 ≤ a) (h3 : a < 4294967296) :
  Calls prog 91 #[.agg #[.int .u32 a, .int .i64 n]] w fun e w' => e = .returned (.int .i64 (zai a n)) ∧ Below w.heap.size w w' := by
 by_cases hn : n < 0 ∨ 32 < n
 ·have hf : zai a n = 4 := by unfold zai; rw [if_pos hn]
  have HF := Lib.hid hf
  clear hf
  rcases (show n < 0 ∨ (0 ≤ n ∧ 32 < n) by omega) with h | ⟨ha, hb⟩
  all_goals
   clear hn
   go_enter func91, ntmps91
   go_wp2_with fail
   go_ret
   exact ⟨zbs HF.out.symm, (Below.refl _ _).alloc (Nat.le_refl _) _⟩
 ·have ha : 0 ≤ n := by omega
  have hb : n ≤ 32 := by omega
  have HF := Lib.hid (show zai a n = if a % 2 ^ (32 - n).toNat = 0 then 0 else 3 by unfold zai; rw [if_neg hn])
  have HA := Lib.hid (zhi a n ha hb h2 h3)
  clear hn
  go_enter func91, ntmps91
  go_wp2_with fail
  go_quiet ((go_at_call 132; exact Calls.quiet_of_same ((mask_c n _ ha hb).mono fun _ _ h => ⟨h.1, h.2.symm⟩)))
  rw [HA.out]
  go_wp2
  ·have ht : (a % 2 ^ (32 - n).toNat != 0) = true := by assumption
   go_ret
   exact ⟨zbs (by rw [HF.out, if_neg (by simpa using ht)]), zd1 ((Below.refl _ _).alloc (Nat.le_refl _) _) _⟩
  ·have ht : (a % 2 ^ (32 - n).toNat != 0) = false := by assumption
   go_ret
   exact ⟨zbs (by rw [HF.out, if_pos (by simpa using ht)]), zd1 ((Below.refl _ _).alloc (Nat.le_refl _) _) _⟩
def topI (a n : Int) : Int := a - a % 2 ^ (32 - n).toNat
theorem and_mask (a n : Int) (h0 : 0 ≤ n) (h1 : n ≤ 32) (h2 : 0 ≤ a) (h3 : a < 4294967296) : bits .and .u32 a (zho n) = topI a n := by
 have hb := maskI_bd n h0 h1
 have h := zhi a n h0 h1 h2 h3
 unfold topI
 rw [← h, u32_andNot a _ h2 h3 hb.1 (by omega), u32_and a _ h2 h3 hb.1 (by omega)]
 obtain ⟨x, rfl⟩ := Int.eq_ofNat_of_zero_le h2
 obtain ⟨m, hm⟩ := Int.eq_ofNat_of_zero_le hb.1
 rw [hm]
 have hm1 : m ≤ 4294967295 := by omega
 have hx : x < 4294967296 := by omega
 simp only [Int.toNat_natCast]
 have key : x &&& m = x - (x &&& (4294967295 - m)) := by
  have : BitVec.ofNat 32 x &&& BitVec.ofNat 32 m = BitVec.ofNat 32 x - (BitVec.ofNat 32 x &&& ~~~ (BitVec.ofNat 32 m)) := by
   generalize BitVec.ofNat 32 x = A
   generalize BitVec.ofNat 32 m = B
   have hd : A = (A &&& B) + (A &&& ~~~B) := by
    rw [BitVec.add_eq_or_of_and_eq_zero]
    ·ext i hi; simp only [BitVec.getElem_or, BitVec.getElem_and, BitVec.getElem_not]; cases A[i] <;> cases B[i] <;> rfl
    ·ext i hi; simp only [BitVec.getElem_and, BitVec.getElem_not, BitVec.getElem_zero]; cases A[i] <;> cases B[i] <;> rfl
   have : A - (A &&& ~~~B) = (A &&& B) := by
    conv => lhs; arg 1; rw [hd]
    exact BitVec.add_sub_cancel _ _
   exact this.symm
  have h := congrArg BitVec.toNat this
  rw [BitVec.toNat_sub, BitVec.toNat_and, BitVec.toNat_and, BitVec.toNat_not] at h
  simp only [BitVec.toNat_ofNat] at h
  rw [Nat.mod_eq_of_lt (show x < 2 ^ 32 by omega), Nat.mod_eq_of_lt (show m < 2 ^ 32 by omega)] at h
  have e : 2 ^ 32 - 1 - m = 4294967295 - m := by omega
  rw [e] at h
  have hle : x &&& (4294967295 - m) ≤ x := Nat.and_le_left
  rw [h]
  omega
 have hle : x &&& (4294967295 - m) ≤ x := Nat.and_le_left
 rw [key]
 omega
theorem topI_bd (a n : Int) (h2 : 0 ≤ a) : 0 ≤ topI a n ∧ topI a n ≤ a := by
 unfold topI
 have hq := zdl (32 - n).toNat
 have h1 := Int.emod_nonneg a (show (2 : Int) ^ (32 - n).toNat ≠ 0 by omega)
 have h3 : a % 2 ^ (32 - n).toNat ≤ a := by
  obtain ⟨x, rfl⟩ := Int.eq_ofNat_of_zero_le h2
  rw [zbU]
  exact_mod_cast Nat.mod_le x (2 ^ (32 - n).toNat)
 omega
def ofA (a n : Int) : Int := if n < 0 ∨ 32 < n then 0 else topI a n
def ofN (n : Int) : Int := if n < 0 ∨ 32 < n then 0 else n
def ofE (n : Int) : Int := if n < 0 ∨ 32 < n then 4 else 0
theorem of_c (a n : Int) (w : World) (h2 : 0 ≤ a) (h3 : a < 4294967296) :
  Calls prog 168 #[.int .u32 a, .int .i64 n] w fun e w' => e = .returned (.tuple #[.agg #[.int .u32 (ofA a n), .int .i64 (ofN n)], .int .i64 (ofE n)]) ∧ Below w.heap.size w w' := by
 by_cases hn : n < 0 ∨ 32 < n
 ·have HF := Lib.hid (show ofA a n = 0 ∧ ofN n = 0 ∧ ofE n = 4 by unfold ofA ofN ofE; rw [if_pos hn, if_pos hn, if_pos hn]; exact ⟨rfl, rfl, rfl⟩)
  rcases (show n < 0 ∨ (0 ≤ n ∧ 32 < n) by omega) with h | ⟨ha, hb⟩
  all_goals
   clear hn
   go_enter func168, ntmps168
   go_wp2_with fail
   rw [HF.out.1, HF.out.2.1, HF.out.2.2]
   exact bodyPost_ret (v := .tuple #[.agg #[.int .u32 0, .int .i64 0], .int .i64 4]) (by simp [results, Tryz.results168, go_sem]) rfl ⟨rfl, by repeat (first | exact Below.refl _ _ | refine Below.alloc ?_ (Nat.le_refl _) _ | refine Below.setCell ?_ (Nat.le_refl _) _)⟩
 ·have ha : 0 ≤ n := by omega
  have hb : n ≤ 32 := by omega
  have HF := Lib.hid (show ofA a n = topI a n ∧ ofN n = n ∧ ofE n = 0 by unfold ofA ofN ofE; rw [if_neg hn, if_neg hn, if_neg hn]; exact ⟨rfl, rfl, rfl⟩)
  have HA := Lib.hid (and_mask a n ha hb h2 h3)
  clear hn
  rw [HF.out.1, HF.out.2.1, HF.out.2.2]
  go_enter func168, ntmps168
  go_wp2_with (go_at_call 132; refine (mask_c n _ ha hb).mono ?_; rintro e w' ⟨rfl, rfl⟩)
  exact bodyPost_ret (v := .tuple #[.agg #[.int .u32 (topI a n), .int .i64 n], .int .i64 0]) (by simp [results, Tryz.results168, go_sem, HA.out]) rfl ⟨rfl, by repeat (first | exact Below.refl _ _ | refine Below.alloc ?_ (Nat.le_refl _) _ | refine Below.setCell ?_ (Nat.le_refl _) _)⟩
end Go.Proofs.YtbjdjclkbjpebaaGreatDoor
namespace Go.Proofs.YtbjdjclkbjpebaaGreatDoor
open Tryz
open Go.RowKit Go.Sort
set_option linter.unusedVariables false
set_option linter.unusedSimpArgs false
set_option maxRecDepth 100000
def zdb (a n x : Int) : Bool := decide (zai a n = 0 ∧ topI x n = a)
def zaY (a n b m : Int) : Bool := decide (zai b m = 0 ∧ n ≤ m) && zdb a n b
theorem zcc {a n : Int} (h : zai a n = 0) : 0 ≤ n ∧ n ≤ 32 ∧ a % 2 ^ (32 - n).toNat = 0 := by
 unfold zai at h
 split at h
 ·simp at h
 ·split at h
  ·exact ⟨by omega, by omega, by assumption⟩
  ·simp at h
theorem zcA (a n : Int) (h2 : 0 ≤ a) (h3 : a < 4294967296) : Gives prog 91 #[.agg #[.int .u32 a, .int .i64 n]] (.int .i64 (zai a n)) :=
 fun w => check_c a n w h2 h3
theorem mask_g (n : Int) (h0 : 0 ≤ n) (h1 : n ≤ 32) : Gives prog 132 #[.int .i64 n] (.int .u32 (zho n)) :=
 fun w => (mask_c n w h0 h1).mono fun _ _ h => ⟨h.1, h.2 ▸ Below.refl _ _⟩
theorem has_g (a n x : Int) (h2 : 0 ≤ a) (h3 : a < 4294967296) (h4 : 0 ≤ x) (h5 : x < 4294967296) :
  Gives prog 167 #[.agg #[.int .u32 a, .int .i64 n], .int .u32 x] (.bool (zdb a n x)) := by
 intro w
 by_cases hf : zai a n = 0
 ·have hk := zcc hf
  have HE := Lib.hid (show zdb a n x = (topI x n == a) by rw [Bool.eq_iff_iff]; unfold zdb; simp [hf])
  have HA := Lib.hid (and_mask x n hk.1 hk.2.1 h4 h5)
  have ha := hk.1
  have hb := hk.2.1
  have hd : (zai a n == 0) = true := by simp [hf]
  clear hk hf
  go_enter func167, ntmps167
  go_wp2_with fail
  have hcq := zee (w.alloc (Obj.cells #[.int .u32 a, .int .i64 n] 88))
  refine wp_quietb (by kernel_rfl) (by kernel_rfl) ?_; (repeat (first | go_big_quiet_step ((first | (go_at_call 91; exact (zcA a n h2 h3).q) | (go_at_call 132; exact (mask_g n ha hb).q))) | quiet_step ((first | (go_at_call 91; exact (zcA a n h2 h3).q) | (go_at_call 132; exact (mask_g n ha hb).q))))); refine wpQuiet_nil ?_
  intro w1 hb1
  clear hcq
  rw [HA.out]
  go_wp2
  go_ret
  exact ⟨zcn HE.out.symm, by (repeat' (first | exact Below.refl _ _ | assumption | refine zbC ?_ (by assumption) | refine za7 ?_ _ | refine zbI ?_ | refine za6 ?_ _ | refine bset ?_ ?_ _ | (show _ ≤ _; simp; omega) | (simp; done)))⟩
 ·have HE := Lib.hid (show zdb a n x = false by unfold zdb; simp [hf])
  have hd : (zai a n == 0) = false := by simp [hf]
  clear hf
  go_enter func167, ntmps167
  go_wp2_with fail
  have hcq := zee (w.alloc (Obj.cells #[.int .u32 a, .int .i64 n] 88))
  refine wp_quietb (by kernel_rfl) (by kernel_rfl) ?_; (repeat (first | go_big_quiet_step ((first | (go_at_call 91; exact (zcA a n h2 h3).q))) | quiet_step ((first | (go_at_call 91; exact (zcA a n h2 h3).q))))); refine wpQuiet_nil ?_
  intro w1 hb1
  clear hcq
  go_wp2
  go_ret
  exact ⟨zcn HE.out.symm, by (repeat' (first | exact Below.refl _ _ | assumption | refine zbC ?_ (by assumption) | refine za7 ?_ _ | refine zbI ?_ | refine za6 ?_ _ | refine bset ?_ ?_ _ | (show _ ≤ _; simp; omega) | (simp; done)))⟩
theorem holds_g (a n b m : Int) (h2 : 0 ≤ a) (h3 : a < 4294967296) (h4 : 0 ≤ b) (h5 : b < 4294967296) :
  Gives prog 138 #[.agg #[.int .u32 a, .int .i64 n], .agg #[.int .u32 b, .int .i64 m]] (.bool (zaY a n b m)) := by
 intro w
 by_cases hf : zai b m = 0
 ·have hd : (zai b m == 0) = true := by simp [hf]
  by_cases hle : n ≤ m
  ·have HE := Lib.hid (show zaY a n b m = zdb a n b by unfold zaY; simp [hf, hle])
   clear hf
   go_enter func138, ntmps138
   go_wp2_with (first | (go_at_call 91; (with_reducible refine Gives.use (zcA b m h4 h5) ?_); intro w1 hb_w1; obtain ⟨hc_w1, hf_w1⟩ := zb2 hb_w1; have hq_w1 := hb_w1.size; (try simp at hq_w1); (try (have hl_w1_w_0 : w.heap.size < w1.heap.size := (by omega); have hm_w1_w_0 := Nat.le_of_lt hl_w1_w_0)); (try (have hl_w1_w_1 : w.heap.size + 1 < w1.heap.size := (by omega); have hm_w1_w_1 := Nat.le_of_lt hl_w1_w_1))) | (go_at_call 167; (with_reducible refine Gives.use (has_g a n b h2 h3 h4 h5) ?_); intro w2 hb_w2; obtain ⟨hc_w2, hf_w2⟩ := zb2 hb_w2; have hq_w2 := hb_w2.size; (try simp at hq_w2)))
   go_ret
   exact ⟨zcn HE.out.symm, by (repeat' (first | exact Below.refl _ _ | assumption | refine zbC ?_ (by assumption) | refine za7 ?_ _ | refine zbI ?_ | refine za6 ?_ _ | refine bset ?_ ?_ _ | (show _ ≤ _; simp; omega) | (simp; done)))⟩
  ·have HE := Lib.hid (show zaY a n b m = false by unfold zaY; simp [hle])
   clear hf
   go_enter func138, ntmps138
   go_wp2_with (first | (go_at_call 91; (with_reducible refine Gives.use (zcA b m h4 h5) ?_); intro w1 hb_w1; obtain ⟨hc_w1, hf_w1⟩ := zb2 hb_w1; have hq_w1 := hb_w1.size; (try simp at hq_w1); (try (have hl_w1_w_0 : w.heap.size < w1.heap.size := (by omega); have hm_w1_w_0 := Nat.le_of_lt hl_w1_w_0)); (try (have hl_w1_w_1 : w.heap.size + 1 < w1.heap.size := (by omega); have hm_w1_w_1 := Nat.le_of_lt hl_w1_w_1))))
   go_ret
   exact ⟨zcn HE.out.symm, by (repeat' (first | exact Below.refl _ _ | assumption | refine zbC ?_ (by assumption) | refine za7 ?_ _ | refine zbI ?_ | refine za6 ?_ _ | refine bset ?_ ?_ _ | (show _ ≤ _; simp; omega) | (simp; done)))⟩
 ·have hd : (zai b m == 0) = false := by simp [hf]
  have HE := Lib.hid (show zaY a n b m = false by unfold zaY; simp [hf])
  clear hf
  go_enter func138, ntmps138
  go_wp2_with (first | (go_at_call 91; (with_reducible refine Gives.use (zcA b m h4 h5) ?_); intro w1 hb_w1; obtain ⟨hc_w1, hf_w1⟩ := zb2 hb_w1; have hq_w1 := hb_w1.size; (try simp at hq_w1); (try (have hl_w1_w_0 : w.heap.size < w1.heap.size := (by omega); have hm_w1_w_0 := Nat.le_of_lt hl_w1_w_0)); (try (have hl_w1_w_1 : w.heap.size + 1 < w1.heap.size := (by omega); have hm_w1_w_1 := Nat.le_of_lt hl_w1_w_1))))
  go_ret
  exact ⟨zcn HE.out.symm, by (repeat' (first | exact Below.refl _ _ | assumption | refine zbC ?_ (by assumption) | refine za7 ?_ _ | refine zbI ?_ | refine za6 ?_ _ | refine bset ?_ ?_ _ | (show _ ≤ _; simp; omega) | (simp; done)))⟩
theorem low_step (a k : Int) (h0 : 0 ≤ k) (h1 : k ≤ 31) (h2 : 0 ≤ a) : a % 2 ^ (32 - k).toNat = bitI a k * 2 ^ (31 - k).toNat + a % 2 ^ (32 - (k + 1)).toNat := by
 unfold bitI
 obtain ⟨j, hj⟩ : ∃ j : Nat, (31 - k).toNat = j := ⟨_, rfl⟩
 have e1 : (32 - k).toNat = j + 1 := by omega
 have e2 : (32 - (k + 1)).toNat = j := by omega
 rw [e1, e2, hj]
 obtain ⟨x, rfl⟩ := Int.eq_ofNat_of_zero_le h2
 have h := Nat.mod_mul (x := x) (a := 2 ^ j) (b := 2)
 rw [← Nat.pow_succ] at h
 have h' := congrArg (fun n : Nat => (n : Int)) h
 simp only [Int.natCast_emod, Int.natCast_add, Int.natCast_mul, Int.natCast_ediv, Int.natCast_pow] at h'
 have e3 : ((2 : Nat) : Int) = 2 := rfl
 rw [e3] at h'
 rw [h', Int.mul_comm, Int.add_comm]
theorem bitI_01 (a k : Int) : bitI a k = 0 ∨ bitI a k = 1 := by unfold bitI; omega
theorem topI_step (a k : Int) (h0 : 0 ≤ k) (h1 : k ≤ 31) (h2 : 0 ≤ a) : topI a (k + 1) = topI a k + bitI a k * 2 ^ (31 - k).toNat := by
 unfold topI
 rw [low_step a k h0 h1 h2]
 omega
theorem zbD (a n : Int) (h2 : 0 ≤ a) (h3 : a < 4294967296) : Gives prog 112 #[.agg #[.int .u32 a, .int .i64 n]] (.int .i64 (zai a n)) := by
 intro w
 by_cases hn : n < 0 ∨ 32 < n
 ·have HF := Lib.hid (show zai a n = 4 by unfold zai; rw [if_pos hn])
  rcases (show n < 0 ∨ (0 ≤ n ∧ 32 < n) by omega) with h | ⟨ha, hb⟩
  all_goals
   clear hn
   go_enter func112, ntmps112
   go_wp2_with fail
   go_ret
   exact ⟨zbs HF.out.symm, by (repeat' (first | exact Below.refl _ _ | assumption | refine zbC ?_ (by assumption) | refine za7 ?_ _ | refine zbI ?_ | refine za6 ?_ _ | refine bset ?_ ?_ _ | (show _ ≤ _; simp; omega) | (simp; done)))⟩
 ·have ha : 0 ≤ n := by omega
  have hb : n ≤ 32 := by omega
  have HF := Lib.hid (show zai a n = if a % 2 ^ (32 - n).toNat = 0 then 0 else 3 by unfold zai; rw [if_neg hn])
  clear hn
  go_enter func112, ntmps112
  go_wp2_with fail
  go_loop [3] (fun i => ∃ k : Int, n ≤ k ∧ k ≤ 32 ∧ i = .int .i64 k ∧ Hid (a % 2 ^ (32 - n).toNat = a % 2 ^ (32 - k).toNat)) (fun i => (32 - intOf i).toNat)
  case atStart => exact ⟨n, by omega, by omega, rfl, rfl⟩
  case round =>
   obtain ⟨k, hk1, hk2, rfl, HK⟩ := hrel
   by_cases hlt : k < 32
   ·have h0k : 0 ≤ k := by omega
    have h31 : k ≤ 31 := by omega
    have HL := Lib.hid (low_step a k h0k h31 h2)
    rcases bitI_01 a k with hbit | hbit
    ·have hd : (bitI a k == 1) = false := by rw [hbit]; rfl
     have HB := Lib.hid hbit
     clear hbit
     go_wp2_with (go_at_call 116; refine (bit_c a k _ h0k h31 h2 h3).mono ?_; rintro e w' ⟨rfl, rfl⟩)
     go_round
     case rel => exact ⟨k + 1, by omega, by omega, by go_num, by show _ = _; rw [HK.out, HL.out, HB.out]; simp⟩
     case measure => simp [intOf]; omega
    ·have hd : (bitI a k == 1) = true := by rw [hbit]; rfl
     have HB := Lib.hid hbit
     clear hbit
     go_wp2_with (go_at_call 116; refine (bit_c a k _ h0k h31 h2 h3).mono ?_; rintro e w' ⟨rfl, rfl⟩)
     go_ret
     refine ⟨zbs ?_, by (repeat' (first | exact Below.refl _ _ | assumption | refine zbC ?_ (by assumption) | refine za7 ?_ _ | refine zbI ?_ | refine za6 ?_ _ | refine bset ?_ ?_ _ | (show _ ≤ _; simp; omega) | (simp; done)))⟩
     rw [HF.out, HK.out, HL.out, HB.out, if_neg]
     have hp := zdl (31 - k).toNat
     have hq := Int.emod_nonneg a (show (2 : Int) ^ (32 - (k + 1)).toNat ≠ 0 from by have := zdl (32 - (k + 1)).toNat; omega)
     omega
   ·obtain rfl : k = 32 := by omega
    go_wp2
    go_ret
    exact ⟨zbs (by rw [HF.out, HK.out]; simp [Int.emod_one]), by (repeat' (first | exact Below.refl _ _ | assumption | refine zbC ?_ (by assumption) | refine za7 ?_ _ | refine zbI ?_ | refine za6 ?_ _ | refine bset ?_ ?_ _ | (show _ ≤ _; simp; omega) | (simp; done)))⟩
theorem zfF (a n : Int) (h2 : 0 ≤ a) (h3 : a < 4294967296) :
  Gives prog 150 #[.int .u32 a, .int .i64 n] (.tuple #[.agg #[.int .u32 (ofA a n), .int .i64 (ofN n)], .int .i64 (ofE n)]) := by
 intro w
 by_cases hn : n < 0 ∨ 32 < n
 ·have HF := Lib.hid (show ofA a n = 0 ∧ ofN n = 0 ∧ ofE n = 4 by unfold ofA ofN ofE; rw [if_pos hn, if_pos hn, if_pos hn]; exact ⟨rfl, rfl, rfl⟩)
  rcases (show n < 0 ∨ (0 ≤ n ∧ 32 < n) by omega) with h | ⟨ha, hb⟩
  all_goals
   clear hn
   go_enter func150, ntmps150
   go_wp2_with fail
   rw [HF.out.1, HF.out.2.1, HF.out.2.2]
   exact bodyPost_ret (v := .tuple #[.agg #[.int .u32 0, .int .i64 0], .int .i64 4]) (by simp [results, Tryz.results150, go_sem]) rfl ⟨rfl, by (repeat' (first | exact Below.refl _ _ | assumption | refine zbC ?_ (by assumption) | refine za7 ?_ _ | refine zbI ?_ | refine za6 ?_ _ | refine bset ?_ ?_ _ | (show _ ≤ _; simp; omega) | (simp; done)))⟩
 ·have ha : 0 ≤ n := by omega
  have hb : n ≤ 32 := by omega
  have HF := Lib.hid (show ofA a n = topI a n ∧ ofN n = n ∧ ofE n = 0 by unfold ofA ofN ofE; rw [if_neg hn, if_neg hn, if_neg hn]; exact ⟨rfl, rfl, rfl⟩)
  clear hn
  rw [HF.out.1, HF.out.2.1, HF.out.2.2]
  go_enter func150, ntmps150
  go_wp2_with fail
  go_loopw [7] (fun i wr => ∃ k : Int, 0 ≤ k ∧ k ≤ n ∧ i = .int .i64 k ∧ Blk wr (w.heap.size + 1) 88 #[.int .u32 (topI a k), .int .i64 n] ∧ Blk wr w.heap.size 88 #[.int .u32 0, .int .i64 0] ∧ Below w.heap.size w wr)
   (fun i _ => (32 - intOf i).toNat)
  case atStart =>
   refine ⟨0, by omega, by omega, rfl, ?_, (Blk.new w _ _).alloc _, by (repeat' (first | exact Below.refl _ _ | assumption | refine zbC ?_ (by assumption) | refine za7 ?_ _ | refine zbI ?_ | refine za6 ?_ _ | refine bset ?_ ?_ _ | (show _ ≤ _; simp; omega) | (simp; done)))⟩
   have e0 : topI a 0 = 0 := by
    unfold topI
    have : a % 2 ^ (32 - (0 : Int)).toNat = a := Int.emod_eq_of_lt h2 h3
    omega
   rw [e0]
   exact by have := Blk.new (w.alloc (Obj.cells #[.int .u32 0, .int .i64 0] 88)) 88 #[.int .u32 0, .int .i64 n]; simpa using this
  case round =>
   obtain ⟨k, hk1, hk2, rfl, HB1, HB0, HBW⟩ := hrel
   have hx0 := HB1.cell 0
   have hx1 := HB1.cell 1
   have hfz := HB1.frozen 0
   have hy0 := HB0.frozen 0
   have hy1 := HB0.frozen 1
   have hyc0 := HB0.cell 0
   have hyc1 := HB0.cell 1
   have hsz := HB1.lt
   simp at hx0 hx1 hyc0 hyc1
   by_cases hlt : k < n
   ·have h31 : k ≤ 31 := by omega
    have HL := Lib.hid (topI_step a k hk1 h31 h2)
    go_wp2_with fail
    have e31 : IntKind.i64.wrap (31 - k) = 31 - k := IntWalk.i64_in _ (by omega)
    have e31' : 0 ≤ 31 - k := by omega
    have hcq := zee wr
    refine zdw 10 (by kernel_rfl) (by kernel_rfl) ?_; simp only [List.take_succ_cons, List.take_zero, List.drop_succ_cons, List.drop_zero]; (repeat (first | go_big_quiet_step ((first | (go_at_call 116; exact Gives.q (fun w => (bit_c a k w hk1 h31 h2 h3).mono fun _ _ h => ⟨h.1, h.2 ▸ Below.refl _ _⟩)))) | quiet_step ((first | (go_at_call 116; exact Gives.q (fun w => (bit_c a k w hk1 h31 h2 h3).mono fun _ _ h => ⟨h.1, h.2 ▸ Below.refl _ _⟩)))))); refine wpQuiet_nil ?_
    intro w1 hb1
    clear e31 hcq
    obtain ⟨hc1, hf1⟩ := zb2 hb1
    go_wp2
    go_roundw
    case rel =>
     have hv : (topI a k + bitI a k * 2 ^ (31 - k).toNat) % 4294967296 = topI a (k + 1) := by
      have hbd := topI_bd a (k + 1) h2
      have hl := HL.out
      rw [← hl]
      omega
     rw [hv]
     refine ⟨k + 1, by omega, by omega, rfl, ?_, ?_, bset (zbC HBW hb1) (by show w.heap.size ≤ w.heap.size + 1; omega) _⟩
     ·exact (HB1.below hb1 hsz).set_ 0 _
     ·exact (HB0.below hb1 (by omega)).far (by show _ ≠ _; simp) _
    case measure => simp [intOf]; omega
   ·obtain rfl : k = n := by omega
    have HB2 := (HB0.set_ 0 (.int .u32 (topI a k))).set_ 1 (.int .i64 k)
    have q0 := HB2.cell 0
    have q1 := HB2.cell 1
    simp at q0 q1
    go_wp2
    exact bodyPost_ret (v := .tuple #[.agg #[.int .u32 (topI a k), .int .i64 k], .int .i64 0]) (by simp [results, Tryz.results150, go_sem, q0, q1]) rfl ⟨rfl, by (repeat' (first | exact Below.refl _ _ | assumption | refine zbC ?_ (by assumption) | refine za7 ?_ _ | refine zbI ?_ | refine za6 ?_ _ | refine bset ?_ ?_ _ | (show _ ≤ _; simp; omega) | (simp; done)))⟩
theorem ofE_of {a n : Int} (h : zai a n = 0) (x : Int) : ofE n = 0 ∧ ofN n = n ∧ ofA x n = topI x n := by
 have hk := zcc h
 unfold ofE ofN ofA
 have hn : ¬ (n < 0 ∨ 32 < n) := by omega
 rw [if_neg hn, if_neg hn, if_neg hn]
 exact ⟨rfl, rfl, rfl⟩
set_option maxRecDepth 20000 in
theorem refHas_g (a n x : Int) (h2 : 0 ≤ a) (h3 : a < 4294967296) (h4 : 0 ≤ x) (h5 : x < 4294967296) :
  Gives prog 176 #[.agg #[.int .u32 a, .int .i64 n], .int .u32 x] (.bool (zdb a n x)) := by
 intro w
 by_cases hf : zai a n = 0
 ·have HE := Lib.hid (show zdb a n x = (ofA x n == a && ofN n == n) by
   rw [Bool.eq_iff_iff]; unfold zdb; have := ofE_of hf x; simp [hf, this])
  have hd : (zai a n == 0) = true := by simp [hf]
  have hd2 : (ofE n == 0) = true := by simp [(ofE_of hf x).1]
  clear hf
  go_enter func176, ntmps176
  go_wp2_with (first | (go_at_call 150; (with_reducible refine Gives.use (zfF x n h4 h5) ?_); intro w1 hb_w1; obtain ⟨hc_w1, hf_w1⟩ := zb2 hb_w1; have hq_w1 := hb_w1.size; (try simp at hq_w1); (try (have hl_w1_w_0 : w.heap.size < w1.heap.size := (by omega); have hm_w1_w_0 := Nat.le_of_lt hl_w1_w_0))) | (go_at_call 112; (with_reducible refine Gives.use (zbD a n h2 h3) ?_); intro w2 hb_w2; obtain ⟨hc_w2, hf_w2⟩ := zb2 hb_w2; have hq_w2 := hb_w2.size; (try simp at hq_w2); (try (have hl_w2_w_0 : w.heap.size < w2.heap.size := (by omega); have hm_w2_w_0 := Nat.le_of_lt hl_w2_w_0)); (try (have hl_w2_w1_0 : w1.heap.size < w2.heap.size := (by omega); have hm_w2_w1_0 := Nat.le_of_lt hl_w2_w1_0))))
  all_goals (go_ret; exact ⟨zcn (by rw [HE.out]; simp [*]), by (repeat' (first | exact Below.refl _ _ | assumption | refine zbC ?_ (by assumption) | refine za7 ?_ _ | refine zbI ?_ | refine za6 ?_ _ | refine bset ?_ ?_ _ | (show _ ≤ _; simp; omega) | (simp; done)))⟩)
 ·have HE := Lib.hid (show zdb a n x = false by unfold zdb; simp [hf])
  have hd : (zai a n == 0) = false := by simp [hf]
  clear hf
  by_cases hE : ofE n = 0
  ·have hd2 : (ofE n == 0) = true := by simp [hE]
   clear hE
   go_enter func176, ntmps176
   go_wp2_with (first | (go_at_call 150; (with_reducible refine Gives.use (zfF x n h4 h5) ?_); intro w1 hb_w1; obtain ⟨hc_w1, hf_w1⟩ := zb2 hb_w1; have hq_w1 := hb_w1.size; (try simp at hq_w1); (try (have hl_w1_w_0 : w.heap.size < w1.heap.size := (by omega); have hm_w1_w_0 := Nat.le_of_lt hl_w1_w_0))) | (go_at_call 112; (with_reducible refine Gives.use (zbD a n h2 h3) ?_); intro w2 hb_w2; obtain ⟨hc_w2, hf_w2⟩ := zb2 hb_w2; have hq_w2 := hb_w2.size; (try simp at hq_w2); (try (have hl_w2_w_0 : w.heap.size < w2.heap.size := (by omega); have hm_w2_w_0 := Nat.le_of_lt hl_w2_w_0)); (try (have hl_w2_w1_0 : w1.heap.size < w2.heap.size := (by omega); have hm_w2_w1_0 := Nat.le_of_lt hl_w2_w1_0))))
   go_ret
   exact ⟨zcn HE.out.symm, by (repeat' (first | exact Below.refl _ _ | assumption | refine zbC ?_ (by assumption) | refine za7 ?_ _ | refine zbI ?_ | refine za6 ?_ _ | refine bset ?_ ?_ _ | (show _ ≤ _; simp; omega) | (simp; done)))⟩
  ·have hd2 : (ofE n == 0) = false := by simp [hE]
   clear hE
   go_enter func176, ntmps176
   go_wp2_with (first | (go_at_call 150; (with_reducible refine Gives.use (zfF x n h4 h5) ?_); intro w1 hb_w1; obtain ⟨hc_w1, hf_w1⟩ := zb2 hb_w1; have hq_w1 := hb_w1.size; (try simp at hq_w1); (try (have hl_w1_w_0 : w.heap.size < w1.heap.size := (by omega); have hm_w1_w_0 := Nat.le_of_lt hl_w1_w_0))))
   go_ret
   exact ⟨zcn HE.out.symm, by (repeat' (first | exact Below.refl _ _ | assumption | refine zbC ?_ (by assumption) | refine za7 ?_ _ | refine zbI ?_ | refine za6 ?_ _ | refine bset ?_ ?_ _ | (show _ ≤ _; simp; omega) | (simp; done)))⟩
theorem zdE (a n b m : Int) (h2 : 0 ≤ a) (h3 : a < 4294967296) (h4 : 0 ≤ b) (h5 : b < 4294967296) :
  Gives prog 151 #[.agg #[.int .u32 a, .int .i64 n], .agg #[.int .u32 b, .int .i64 m]] (.bool (zaY a n b m)) := by
 intro w
 by_cases hf : zai b m = 0
 ·have hd : (zai b m == 0) = true := by simp [hf]
  by_cases hle : n ≤ m
  ·have HE := Lib.hid (show zaY a n b m = zdb a n b by unfold zaY; simp [hf, hle])
   clear hf
   go_enter func151, ntmps151
   go_wp2_with (first | (go_at_call 112; (with_reducible refine Gives.use (zbD b m h4 h5) ?_); intro w1 hb_w1; obtain ⟨hc_w1, hf_w1⟩ := zb2 hb_w1; have hq_w1 := hb_w1.size; (try simp at hq_w1); (try (have hl_w1_w_0 : w.heap.size < w1.heap.size := (by omega); have hm_w1_w_0 := Nat.le_of_lt hl_w1_w_0)); (try (have hl_w1_w_1 : w.heap.size + 1 < w1.heap.size := (by omega); have hm_w1_w_1 := Nat.le_of_lt hl_w1_w_1))) | (go_at_call 176; (with_reducible refine Gives.use (refHas_g a n b h2 h3 h4 h5) ?_); intro w2 hb_w2; obtain ⟨hc_w2, hf_w2⟩ := zb2 hb_w2; have hq_w2 := hb_w2.size; (try simp at hq_w2)))
   go_ret
   exact ⟨zcn HE.out.symm, by (repeat' (first | exact Below.refl _ _ | assumption | refine zbC ?_ (by assumption) | refine za7 ?_ _ | refine zbI ?_ | refine za6 ?_ _ | refine bset ?_ ?_ _ | (show _ ≤ _; simp; omega) | (simp; done)))⟩
  ·have HE := Lib.hid (show zaY a n b m = false by unfold zaY; simp [hle])
   clear hf
   go_enter func151, ntmps151
   go_wp2_with (first | (go_at_call 112; (with_reducible refine Gives.use (zbD b m h4 h5) ?_); intro w1 hb_w1; obtain ⟨hc_w1, hf_w1⟩ := zb2 hb_w1; have hq_w1 := hb_w1.size; (try simp at hq_w1); (try (have hl_w1_w_0 : w.heap.size < w1.heap.size := (by omega); have hm_w1_w_0 := Nat.le_of_lt hl_w1_w_0)); (try (have hl_w1_w_1 : w.heap.size + 1 < w1.heap.size := (by omega); have hm_w1_w_1 := Nat.le_of_lt hl_w1_w_1))))
   go_ret
   exact ⟨zcn HE.out.symm, by (repeat' (first | exact Below.refl _ _ | assumption | refine zbC ?_ (by assumption) | refine za7 ?_ _ | refine zbI ?_ | refine za6 ?_ _ | refine bset ?_ ?_ _ | (show _ ≤ _; simp; omega) | (simp; done)))⟩
 ·have hd : (zai b m == 0) = false := by simp [hf]
  have HE := Lib.hid (show zaY a n b m = false by unfold zaY; simp [hf])
  clear hf
  go_enter func151, ntmps151
  go_wp2_with (first | (go_at_call 112; (with_reducible refine Gives.use (zbD b m h4 h5) ?_); intro w1 hb_w1; obtain ⟨hc_w1, hf_w1⟩ := zb2 hb_w1; have hq_w1 := hb_w1.size; (try simp at hq_w1); (try (have hl_w1_w_0 : w.heap.size < w1.heap.size := (by omega); have hm_w1_w_0 := Nat.le_of_lt hl_w1_w_0)); (try (have hl_w1_w_1 : w.heap.size + 1 < w1.heap.size := (by omega); have hm_w1_w_1 := Nat.le_of_lt hl_w1_w_1))))
  go_ret
  exact ⟨zcn HE.out.symm, by (repeat' (first | exact Below.refl _ _ | assumption | refine zbC ?_ (by assumption) | refine za7 ?_ _ | refine zbI ?_ | refine za6 ?_ _ | refine bset ?_ ?_ _ | (show _ ≤ _; simp; omega) | (simp; done)))⟩
theorem of_g (a n : Int) (h2 : 0 ≤ a) (h3 : a < 4294967296) : Gives prog 168 #[.int .u32 a, .int .i64 n] (.tuple #[.agg #[.int .u32 (ofA a n), .int .i64 (ofN n)], .int .i64 (ofE n)]) :=
 fun w => of_c a n w h2 h3
def ord3 (a b : Int) : Int := if a < b then -1 else if b < a then 1 else 0
def zcM (a n b m : Int) : Int := if a = b then ord3 n m else ord3 a b
theorem cmpU_g (a b : Int) : Gives prog 134 #[.int .u32 a, .int .u32 b] (.int .i64 (ord3 a b)) := by
 intro w
 have HE := Lib.hid (show ord3 a b = if a < b then -1 else if b < a then 1 else 0 from rfl)
 go_enter func134, ntmps134
 go_wp2
 all_goals (go_ret; exact ⟨zbs (by rw [HE.out]; (repeat' split) <;> simp_all <;> omega), by (repeat' (first | exact Below.refl _ _ | assumption | refine zbC ?_ (by assumption) | refine za7 ?_ _ | refine zbI ?_ | refine za6 ?_ _ | refine bset ?_ ?_ _ | (show _ ≤ _; simp; omega) | (simp; done)))⟩)
theorem cmpI_g (a b : Int) : Gives prog 135 #[.int .i64 a, .int .i64 b] (.int .i64 (ord3 a b)) := by
 intro w
 have HE := Lib.hid (show ord3 a b = if a < b then -1 else if b < a then 1 else 0 from rfl)
 go_enter func135, ntmps135
 go_wp2
 all_goals (go_ret; exact ⟨zbs (by rw [HE.out]; (repeat' split) <;> simp_all <;> omega), by (repeat' (first | exact Below.refl _ _ | assumption | refine zbC ?_ (by assumption) | refine za7 ?_ _ | refine zbI ?_ | refine za6 ?_ _ | refine bset ?_ ?_ _ | (show _ ≤ _; simp; omega) | (simp; done)))⟩)
def or2 (x y : Int) : Int := if x = 0 then y else x
theorem or2_c (b : Nat) (x y : Int) (w : World) (h0 : w.cell? ⟨b, 0, none⟩ = some (.int .i64 x)) (h1 : w.cell? ⟨b, 1, none⟩ = some (.int .i64 y)) :
  Calls prog 133 #[.slice (some ⟨b, 0, none⟩) 2 2] w fun e w' => e = .returned (.int .i64 (or2 x y)) ∧ w = w' := by
 by_cases hx : x = 0
 ·have hd : (x != 0) = false := by simp [hx]
  have HX := Lib.hid hx
  clear hx
  by_cases hy : y = 0
  ·have hdy : (y != 0) = false := by simp [hy]
   have HY := Lib.hid hy
   clear hy
   go_enter func133, ntmps133
   go_wp2
   refine wp_loop_rounds 3 ?_
   repeat any_goals (rw [rounds_succ]; go_wp2)
   go_ret
   exact ⟨zbs (by unfold or2; rw [HX.out, HY.out]; simp), rfl⟩
  ·have hdy : (y != 0) = true := by simp [hy]
   have HY := Lib.hid hy
   clear hy
   go_enter func133, ntmps133
   go_wp2
   refine wp_loop_rounds 3 ?_
   repeat any_goals (rw [rounds_succ]; go_wp2)
   go_ret
   exact ⟨zbs (by unfold or2; rw [HX.out]; simp), rfl⟩
 ·have hd : (x != 0) = true := by simp [hx]
  have HX := Lib.hid hx
  clear hx
  go_enter func133, ntmps133
  go_wp2
  refine wp_loop_rounds 3 ?_
  repeat any_goals (rw [rounds_succ]; go_wp2)
  go_ret
  exact ⟨zbs (by unfold or2; rw [if_neg HX.out]), rfl⟩
theorem compare_g (a n b m : Int) : Gives prog 92 #[.agg #[.int .u32 a, .int .i64 n], .agg #[.int .u32 b, .int .i64 m]] (.int .i64 (zcM a n b m)) := by
 intro w
 have HE := Lib.hid (show zcM a n b m = or2 (ord3 a b) (ord3 n m) by
  unfold zcM or2 ord3; (repeat' split) <;> simp_all <;> omega)
 go_enter func92, ntmps92
 go_wp2_with fail
 have hcq := zee ((w.alloc (Obj.cells #[.int .u32 a, .int .i64 n] 88)).alloc (Obj.cells #[.int .u32 b, .int .i64 m] 88))
 refine zdw 10 (by kernel_rfl) (by kernel_rfl) ?_; simp only [List.take_succ_cons, List.take_zero, List.drop_succ_cons, List.drop_zero]; (repeat (first | go_big_quiet_step ((first | (go_at_call 134; exact (cmpU_g a b).q) | (go_at_call 135; exact (cmpI_g n m).q))) | quiet_step ((first | (go_at_call 134; exact (cmpU_g a b).q) | (go_at_call 135; exact (cmpI_g n m).q))))); refine wpQuiet_nil ?_
 intro w1 hb_w1
 clear hcq
 go_wp2_with fail
 refine (or2_c w1.heap.size (ord3 a b) (ord3 n m) _ ?_ ?_).mono ?_
 ·simp
 ·simp
 rintro e w2 ⟨rfl, rfl⟩
 go_wp2
 go_ret
 exact ⟨zbs HE.out.symm, by (repeat' (first | exact Below.refl _ _ | assumption | refine zbC ?_ (by assumption) | refine za7 ?_ _ | refine zbI ?_ | refine za6 ?_ _ | refine bset ?_ ?_ _ | (show _ ≤ _; simp; omega) | (simp; done)))⟩
theorem order_g (a n b m : Int) : Gives prog 113 #[.agg #[.int .u32 a, .int .i64 n], .agg #[.int .u32 b, .int .i64 m]] (.int .i64 (zcM a n b m)) := by
 intro w
 have HE := Lib.hid (show zcM a n b m = if a = b then (if n < m then -1 else if m < n then 1 else 0) else (if a < b then -1 else if b < a then 1 else 0) from rfl)
 go_enter func113, ntmps113
 go_wp2
 all_goals (go_ret; exact ⟨zbs (by rw [HE.out]; (repeat' split) <;> simp_all <;> omega), by (repeat' (first | exact Below.refl _ _ | assumption | refine zbC ?_ (by assumption) | refine za7 ?_ _ | refine zbI ?_ | refine za6 ?_ _ | refine bset ?_ ?_ _ | (show _ ≤ _; simp; omega) | (simp; done)))⟩)
def netA (a n : Int) : List AV := [.p (.v (.int .u32 a)), .p (.v (.int .i64 n))]
theorem zfp (a n : Int) (h2 : 0 ≤ a) (h3 : a < 4294967296) : Fn prog 91 [.agg (netA a n)] (.p (.v (.int .i64 (zai a n)))) [] :=
 zcS rfl (fun _ _ _ => zaV rfl) (zcA a n h2 h3)
theorem nrFault_s (a n : Int) (h2 : 0 ≤ a) (h3 : a < 4294967296) : Fn prog 112 [.agg (netA a n)] (.p (.v (.int .i64 (zai a n)))) [] :=
 zcS rfl (fun _ _ _ => zaV rfl) (zbD a n h2 h3)
end Go.Proofs.YtbjdjclkbjpebaaGreatDoor
