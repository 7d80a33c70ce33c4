/- Strings and their bytes. Numerals of at most five digits: what strconv's numbers and a plain reading have in common. No program in sight. Numerals of at most five digits, as strings. No program in sight. -/
import Derived.Lib.AtoiAll
import Derived.Test.YtlfjpippeeikdaaGreatDoorSMa4
import Derived.Lib.LaidU8
set_option linter.all false
namespace Go.Proofs.YtlfjpippeeikdaaGreatDoor
open Go.RowKit Go.Sort
theorem sb_nums {xs : List Int} (h : isB xs) : sb (strOfNums xs) = xs := by
 show ((xs.map fun n => UInt8.ofNat n.toNat).toArray.toList.map fun c => ((c.toNat : Nat) : Int)) = xs
 simp only [qbg]
 conv => rhs; rw [← List.map_id xs]
 refine qbw fun x hx => ?_
 have := h x hx
 show (((UInt8.ofNat x.toNat).toNat : Nat) : Int) = x
 rw [UInt8.toNat_ofNat']; omega
theorem nums_inj {xs ys : List Int} (h : isB xs) (k : isB ys) (e : strOfNums xs = strOfNums ys) : xs = ys := by rw [← sb_nums h, ← sb_nums k, e]
end Go.Proofs.YtlfjpippeeikdaaGreatDoor
namespace Go.Proofs.YtlfjpippeeikdaaGreatDoor
open Go.Lib
def dgB (c : UInt8) : Prop := 48 ≤ c.toNat ∧ c.toNat ≤ 57
def valL : List UInt8 → Nat → Nat
 | [], a => a
 | c :: r, a => valL r (a * 10 + (c.toNat - 48))
theorem valL_push : ∀ (l : List UInt8) (c : UInt8) (a : Nat), valL (l ++ [c]) a = valL l a * 10 + (c.toNat - 48)
 | [], c, a => rfl
 | x :: l, c, a => by simp only [qa2, valL]; exact valL_push l c _
theorem valL_lt : ∀ (l : List UInt8) (a : Nat), (∀ c ∈ l, dgB c) → valL l a < (a + 1) * 10 ^ l.length
 | [], a, _ => by simp [valL]
 | c :: r, a, h => by
  have h0 := h c qz
  have h1 := valL_lt r (a * 10 + (c.toNat - 48)) fun x hx => h x qay
  have h2 : (a * 10 + (c.toNat - 48) + 1) * 10 ^ r.length ≤ ((a + 1) * 10) * 10 ^ r.length := qba _ (by unfold dgB at h0; omega)
  simp only [valL, qaO, qb5]
  calc valL r (a * 10 + (c.toNat - 48)) < _ := h1
   _ ≤ _ := h2
   _ = (a + 1) * (10 ^ r.length * 10) := by rw [Nat.mul_assoc, qb6 10]
theorem parse_ok : ∀ (l : List UInt8) (a : Nat), (∀ c ∈ l, dgB c) → (a + 1) * 10 ^ l.length ≤ 1000000000000000000 → parseUint10 a l = .ok (valL l a)
 | [], a, _, _ => rfl
 | c :: r, a, h, hb => by
  have h0 := h c qz
  unfold dgB at h0
  have hp : 1 ≤ 10 ^ r.length := Nat.one_le_pow _ _ qw
  have e1 : (a + 1) * 10 ^ (c :: r).length = (a + 1) * 10 * 10 ^ r.length := by rw [qaO, qb5, Nat.mul_assoc, qb6 10]
  rw [e1] at hb
  have h1 : (a + 1) * 10 ≤ (a + 1) * 10 * 10 ^ r.length := Nat.le_mul_of_pos_right _ hp
  simp only [parseUint10, valL]
  rw [if_pos ⟨h0.1, h0.2⟩, if_neg (by omega), if_neg (by omega)]
  refine parse_ok r _ (fun x hx => h x qay) ?_
  exact qby (qba _ qk) hb
def canL (l : List UInt8) : Prop := l ≠ [] ∧ l.length ≤ 5 ∧ (∀ c ∈ l, dgB c) ∧ (1 < l.length → l.head? ≠ some 48)
theorem u8_dg {c : UInt8} (h : dgB c) : UInt8.ofNat (48 + (c.toNat - 48)) = c := by
 unfold dgB at h
 rw [show 48 + (c.toNat - 48) = c.toNat by omega]
 simp
theorem dec_push {a d : Nat} (ha : 1 ≤ a) (hd : d < 10) : decDigits (a * 10 + d) = decDigits a ++ [UInt8.ofNat (48 + d)] := by
 rw [decDigits, dif_neg (by omega), show (a * 10 + d) / 10 = a by omega, show (a * 10 + d) % 10 = d by omega]
theorem dec_val : ∀ (l : List UInt8) (a : Nat), 1 ≤ a → (∀ c ∈ l, dgB c) → decDigits (valL l a) = decDigits a ++ l
 | [], a, _, _ => by simp [valL]
 | c :: r, a, ha, h => by
  have h0 := h c qz
  have h0' := h0
  unfold dgB at h0'
  simp only [valL]
  rw [dec_val r _ (by omega) fun x hx => h x (by simp [hx]), dec_push ha (by omega), u8_dg h0, qaY]
  rfl
theorem canL_val {l : List UInt8} (h : canL l) : atoiAll l = .ok ((valL l 0 : Nat) : Int) ∧ itoa ((valL l 0 : Nat) : Int) = l ∧ valL l 0 < 100000 := by
 obtain ⟨h1, h2, h3, h4⟩ := h
 have hlt := valL_lt l 0 h3
 have hpw : 10 ^ l.length ≤ 10 ^ 5 := qbA qw h2
 have hv : valL l 0 < 100000 := qk
 refine ⟨?_, ?_, hv⟩
 ·match l, h1, h3, hpw, hv with
  | c :: r, _, h3, hpw, hv =>
   have h0 := h3 c qz
   unfold dgB at h0
   unfold atoiAll
   simp only
   rw [if_neg (by omega)]
   unfold parseMag
   rw [if_neg (by simp), parse_ok _ 0 h3 (by omega)]
   simp only
   rw [if_neg (by omega), if_neg (by omega), if_neg (by omega)]
 ·unfold itoa
  rw [if_neg (by omega), qaS]
  match l, h1, h3, h4 with
  | c :: r, _, h3, h4 =>
   have h0 := h3 c qz
   have h0' := h0
   unfold dgB at h0'
   simp only [valL, Nat.zero_mul, Nat.zero_add]
   cases r with
   | nil => simp only [valL]; rw [decDigits_one (by omega), u8_dg h0]
   | cons x r =>
    have hc : c ≠ 48 := fun e => h4 qz (by simp [e])
    have hc1 : c.toNat ≠ 48 := fun e => hc (by rw [← UInt8.toNat_inj, e]; rfl)
    rw [dec_val _ _ (by omega) fun y hy => h3 y (by simp [hy]), decDigits_one (by omega), u8_dg h0]
    rfl
theorem dec_dg (n : Nat) : ∀ c ∈ decDigits n, dgB c := by
 induction n using Nat.strongRecOn with
 | _ n ih =>
  intro c hc
  rw [decDigits] at hc
  have key : ∀ d, d < 10 → dgB (UInt8.ofNat (48 + d)) := fun d hd => by
   unfold dgB
   rw [UInt8.toNat_ofNat']
   omega
  split at hc
  ·simp only [qbC] at hc
   rw [hc]; exact key n qP
  ·rcases qaW.1 hc with hc | hc
   ·exact ih (n / 10) qk c hc
   ·simp only [qbC] at hc
    rw [hc]; exact key _ qk
theorem dec_ne (n : Nat) : decDigits n ≠ [] := by
 rw [decDigits]; split <;> simp
theorem dec_head (n : Nat) (hn : 1 ≤ n) : (decDigits n).head? ≠ some 48 := by
 induction n using Nat.strongRecOn with
 | _ n ih =>
  rw [decDigits]
  split
  ·simp only [List.head?_cons, ne_eq, Option.some.injEq]
   intro e
   have := congrArg UInt8.toNat e
   rw [UInt8.toNat_ofNat'] at this
   have e48 : (48 : UInt8).toNat = 48 := rfl
   omega
  ·have := ih (n / 10) qk qk
   rw [List.head?_append]
   cases hq : (decDigits (n / 10)).head? with
   | none => exact absurd (List.head?_eq_none_iff.1 hq) (dec_ne _)
   | some c => rw [hq] at this; simpa using this
theorem canL_of {l : List UInt8} {v : Int} (hl : l.length ≤ 5) (hv : 0 ≤ v) (h : itoa v = l) : canL l := by
 unfold itoa at h
 rw [if_neg (by omega)] at h
 subst h
 refine ⟨dec_ne _, hl, dec_dg _, fun h1 => ?_⟩
 by_cases h0 : v.toNat = 0
 ·rw [h0, decDigits_one (by decide)] at h1
  simp at h1
 ·exact dec_head _ qk
instance dgB_dec (c : UInt8) : Decidable (dgB c) := by unfold dgB; infer_instance
instance canL_dec (l : List UInt8) : Decidable (canL l) := by unfold canL; infer_instance
def canS (s : ByteArray) : Bool := decide (canL s.data.toList)
def valS (s : ByteArray) : Nat := valL s.data.toList 0
def itoS (n : Int) : ByteArray := ⟨(itoa n).toArray⟩
theorem ziC {s : ByteArray} (h : canS s = true) : atoiAll s.data.toList = .ok ((valS s : Nat) : Int) ∧ itoS ((valS s : Nat) : Int) = s ∧ valS s < 100000 := by
 obtain ⟨h1, h2, h3⟩ := canL_val (of_decide_eq_true h)
 refine ⟨h1, ?_, h3⟩
 unfold itoS valS
 rw [h2]
theorem canS_of {s : ByteArray} {v : Int} (hl : s.size ≤ 5) (hv : 0 ≤ v) (h : itoS v = s) : canS s = true := by
 refine decide_eq_true (canL_of (v := v) qau hv ?_)
 rw [← h]; rfl
theorem canS_num {s : ByteArray} {v : Int} (hl : s.size ≤ 5) (hv : 0 ≤ v) (h : itoS v = s) (ha : atoiAll s.data.toList = .ok v) : canS s = true ∧ v = valS s := by
 have hc := canS_of hl hv h
 refine ⟨hc, ?_⟩
 have := (ziC hc).1
 rw [ha] at this
 exact NumEnd.ok.inj this
theorem canS_size {s : ByteArray} (h : canS s = true) : 1 ≤ s.size ∧ s.size ≤ 5 := by
 obtain ⟨h1, h2, _⟩ := of_decide_eq_true (p := canL s.data.toList) h
 have h3 := List.length_pos_iff.2 h1
 rw [qbp] at h2 h3
 exact ⟨h3, h2⟩
theorem data_at {s : ByteArray} {i : Nat} (h : i < s.size) : s.data.toList[i]? = some s[i] := by
 rw [Array.getElem?_toList]
 exact qb2 h
theorem zfR {s : ByteArray} {i : Nat} {c : UInt8} (h : s.data.toList[i]? = some c) : sAt s i = (c.toNat : Int) := by
 unfold sAt sb
 rw [List.getD_eq_getElem?_getD, qbf, h]
 rfl
def digS (c : Int) : Bool := decide (48 ≤ c) && decide (c ≤ 57)
def valT (s : ByteArray) (i : Nat) : Int := (valL (s.data.toList.take i) 0 : Nat)
theorem valT_zero (s : ByteArray) : valT s 0 = 0 := by simp [valT, valL]
theorem valT_all (s : ByteArray) : valT s s.size = (valS s : Nat) := by
 unfold valT valS
 rw [qaN (by simp)]
theorem valT_succ {s : ByteArray} {i : Nat} (h : i < s.size) (hd : digS (sAt s i) = true) : valT s (i + 1) = 10 * valT s i + (sAt s i - 48) := by
 obtain ⟨c, hc⟩ : ∃ c, s.data.toList[i]? = some c := ⟨_, data_at h⟩
 have hs := zfR hc
 unfold digS at hd
 simp only [qaT, decide_eq_true_eq] at hd
 unfold valT
 rw [List.take_add_one, hc, Option.toList_some, valL_push, hs]
 rw [hs] at hd
 omega
theorem valT_in {s : ByteArray} {i : Nat} (hi : i ≤ s.size) (h5 : i ≤ 5) (hd : ∀ j, j < i → digS (sAt s j) = true) : 0 ≤ valT s i ∧ valT s i < 100000 := by
 have hc : ∀ c ∈ s.data.toList.take i, dgB c := by
  intro c hc
  obtain ⟨j, hj, he⟩ := qbs.1 hc
  rw [List.length_take] at hj
  rw [qb4] at he
  have h1 : s.data.toList[j]? = some c := by rw [List.getElem?_eq_getElem (by omega), he]
  have h2 := hd j qk
  rw [zfR h1] at h2
  unfold digS at h2
  simp only [qaT, decide_eq_true_eq] at h2
  unfold dgB
  omega
 have h1 := valL_lt _ 0 hc
 have h2 : 10 ^ (s.data.toList.take i).length ≤ 10 ^ 5 := qbA qw qW
 unfold valT
 omega
theorem canS_dig {s : ByteArray} (h0 : s.size ≠ 0) (h5 : s.size ≤ 5) (hz : 1 < s.size → sAt s 0 ≠ 48) (hd : ∀ j, j < s.size → digS (sAt s j) = true) : canS s = true := by
 refine decide_eq_true ⟨fun e => h0 ?_, by simpa using h5, fun c hc => ?_, fun h1 e => ?_⟩
 ·have := congrArg List.length e
  simpa using this
 ·obtain ⟨i, hi, he⟩ := qbs.1 hc
  have hi' : i < s.size := by simpa using hi
  have hh := zfR (s := s) (i := i) (c := c) (by rw [List.getElem?_eq_getElem hi, he])
  have h2 := hd i hi'
  rw [hh] at h2
  unfold digS at h2
  simp only [qaT, decide_eq_true_eq] at h2
  unfold dgB
  omega
 ·have h2 : 1 < s.size := by simpa using h1
  have h3 : s.data.toList[0]? = some 48 := by rw [← List.head?_eq_getElem?]; exact e
  exact hz h2 (zfR h3)
theorem canS_not {s : ByteArray} (h : s.size = 0 ∨ 5 < s.size ∨ (1 < s.size ∧ sAt s 0 = 48) ∨ ∃ j, j < s.size ∧ digS (sAt s j) = false) : canS s = false := by
 refine decide_eq_false fun ⟨h1, h2, h3, h4⟩ => ?_
 rcases h with h | h | ⟨h, h5⟩ | ⟨j, hj, h5⟩
 ·exact h1 (qaQ qG)
 ·have : s.size ≤ 5 := by simpa using h2
  omega
 ·obtain ⟨c, hc⟩ : ∃ c, s.data.toList[0]? = some c := ⟨_, data_at (show 0 < s.size by omega)⟩
  rw [zfR hc] at h5
  refine h4 qG ?_
  rw [List.head?_eq_getElem?, hc]
  congr 1
  rw [← UInt8.toNat_inj]
  show c.toNat = 48
  omega
 ·obtain ⟨c, hc⟩ : ∃ c, s.data.toList[j]? = some c := ⟨_, data_at hj⟩
  have := h3 c (qaE hc)
  rw [zfR hc] at h5
  unfold dgB at this
  unfold digS at h5
  simp only [Bool.and_eq_false_iff, decide_eq_false_iff_not] at h5
  omega
def numB (s : ByteArray) (most : Int) : Bool := canS s && decide ((valS s : Int) ≤ most)
def numE (s : ByteArray) (most : Int) : Int := if numB s most = true then 0 else 3
def numV (s : ByteArray) (most : Int) : Int := if numB s most = true then (valS s : Int) else 0
end Go.Proofs.YtlfjpippeeikdaaGreatDoor
namespace Go.Proofs.YtlfjpippeeikdaaGreatDoor
open Go.RowKit Go.Sort
theorem zas {α β : Type} {f : α → List β} {k : Nat} (hf : ∀ x, (f x).length = k) : ∀ l : List α, (l.flatMap f).length = l.length * k
 | [] => by simp
 | a :: l => by rw [qbb, qaC, hf, zas hf l, qaO]; rw [qbx]; omega
theorem zaj {α β : Type} {f : α → List β} {k : Nat} (hf : ∀ x, (f x).length = k) : ∀ {l : List α} {i : Nat} {x : α}, l[i]? = some x → ((l.flatMap f).drop (i * k)).take k = f x
 | [], i, x, h => by simp at h
 | a :: l, 0, x, h => by
  simp at h; subst h
  rw [Nat.zero_mul, qbD, qbb, qa3 (by rw [hf]; exact Nat.le_refl _), qaN (by rw [hf]; exact Nat.le_refl _)]
 | a :: l, i + 1, x, h => by
  have h' : l[i]? = some x := by simpa using h
  have e : (i + 1) * k = (f a).length + i * k := by rw [hf, qbx]; omega
  rw [qbb, e, ← qbK, qca]
  exact zaj hf h'
theorem zak {α β : Type} {f : α → List β} {k : Nat} (hf : ∀ x, (f x).length = k) {l : List α} {i : Nat} (h : i < l.length) : i * k + k ≤ (l.flatMap f).length := by
 rw [zas hf]
 have : (i + 1) * k ≤ l.length * k := qba _ h
 rw [qbx] at this; omega
theorem zgd {α β : Type} {f : α → List β} {k : Nat} (hf : ∀ x, (f x).length = k) : ∀ (l : List α) (i : Nat), (l.flatMap f).drop (i * k) = (l.drop i).flatMap f
 | [], i => by simp
 | a :: l, 0 => by simp
 | a :: l, i + 1 => by
  have e : (i + 1) * k = (f a).length + i * k := by rw [hf, qbx]; omega
  rw [qbb, e, ← qbK, qca, qbu, zgd hf l i]
theorem zfV {α : Type} {f : α → List PV} {Q : α → Prop} : ∀ {L : List (List PV)}, (∀ x ∈ L, ∃ a, Q a ∧ x = f a) → ∃ l : List α, l.length = L.length ∧ L.flatten = l.flatMap f ∧ ∀ a ∈ l, Q a
 | [], _ => ⟨[], rfl, rfl, qz⟩
 | x :: L, h => by
  obtain ⟨a, h1, rfl⟩ := h x qz
  obtain ⟨l, h2, h3, h4⟩ := zfV (L := L) fun y hy => h y qaw
  exact ⟨a :: l, by simp [h2], by simp [h3], fun b hb => by
   rcases qaI.1 hb with rfl | hb
   ·exact h1
   ·exact h4 b hb⟩
theorem ty_recs {P : Program} {n t e sz : Nat} {ps : List PV} {α : Type} {f : α → List PV} {Q : α → Prop} (hu : P.underlying t = some (.slice e)) (hs : P.cellsOf e = sz) (hT : Ty P (n + 1) t ps) (hr : ∀ x, Ty P n e x → ∃ a, Q a ∧ x = f a) :
 ∃ l : List α, ps = [.sl l.length sz (l.flatMap f)] ∧ l.length * P.bytesOf e ≤ reachBytes ∧ ∀ a ∈ l, Q a := by
 obtain ⟨L, rfl, h2, h3⟩ := ty_sliceS hu hs hT
 obtain ⟨l, k1, k2, k3⟩ := zfV (f := f) (Q := Q) fun x hx => hr x (h3 x hx).1
 exact ⟨l, by rw [k1, k2], by rw [k1]; exact h2, k3⟩
def isIfc : Value → Bool
 | .iface _ _ => true
 | _ => false
theorem isIfc_ex {v : Value} (h : isIfc v = true) : ∃ t x, v = .iface t x := by
 cases v <;> simp [isIfc] at h
 exact ⟨_, _, rfl⟩
theorem guard_ifI (op : BinOp) (t : TypeId) (x y : Operand) (te : TypeId) (pe : Value) (w : World) {P : Program} : (eqGuard op t x y (.iface te pe) .nilIface).run P w = .ok () w := by
 unfold eqGuard
 cases op <;> rfl
theorem guard_ifN (op : BinOp) (t : TypeId) (x : Operand) (c : Value) (w : World) {P : Program} : (eqGuard op t x (.const c) .nilIface .nilIface).run P w = .ok () w := by
 unfold eqGuard
 cases op <;> first | rfl | simp
section
variable {P : Program} {d : Option Tmp} {ty : TypeId} {pos : String} {af : Array Edge} {g : Option (Nat × Bool)} {xt yt : TypeId} {x : Operand} {c : Value} {ms : Array (String × TypeId)}
theorem run_ifI (w : World) (hu : P.underlying xt = some (.interface ms)) (te : TypeId) (pe : Value) : (Op.equal xt (.iface te pe) .nilIface).run P w = .ok false w := by
 show (Op.equalIn (9999 + 1) xt (.iface te pe) .nilIface).run P w = .ok false w
 generalize 9999 = d
 simp [Op.equalIn, run_underlying hu]
theorem run_ifN (w : World) (hu : P.underlying xt = some (.interface ms)) : (Op.equal xt .nilIface .nilIface).run P w = .ok true w := by
 show (Op.equalIn (9999 + 1) xt .nilIface .nilIface).run P w = .ok true w
 generalize 9999 = d
 simp [Op.equalIn, run_underlying hu]
theorem a_ifneqI (hu : P.underlying xt = some (.interface ms)) : AOp P ⟨d, .binOp .neq xt x (.const c) yt, ty, pos, af, g⟩ [.sat isIfc, .p (.v .nilIface)] [] [] (qf true) :=
 zaD fun S m w ev hr => by
  obtain ⟨h1, h2⟩ := zci (u := ev x) (v := ev (.const c)) hr
  simp only [Rep] at h1
  obtain ⟨te, pe, h3⟩ := isIfc_ex h1.1
  exact ⟨.bool true, by simp only [execOp, h3, zba h2, qaK, guard_ifI, qaD, binOp, run_ifI w hu, qaL]; rfl, za3 rfl⟩
theorem a_ifneqN (hu : P.underlying xt = some (.interface ms)) : AOp P ⟨d, .binOp .neq xt x (.const c) yt, ty, pos, af, g⟩ [.p (.v .nilIface), .p (.v .nilIface)] [] [] (qf false) :=
 zaD fun S m w ev hr => by
  obtain ⟨h1, h2⟩ := zci (u := ev x) (v := ev (.const c)) hr
  exact ⟨.bool false, by simp only [execOp, zba h1, zba h2, qaK, guard_ifN, qaD, binOp, run_ifN w hu, qaL]; rfl, za3 rfl⟩
end
def fnz (f : Nat → Int) : Nat → Int
 | 0 => 0
 | n + 1 => if fnz f n ≠ 0 then fnz f n else f n
theorem zcD {f : Nat → Int} : ∀ {n : Nat}, (∀ j, j < n → f j = 0) → fnz f n = 0
 | 0, _ => rfl
 | n + 1, h => by
  have h1 := zcD (f := f) (n := n) fun j hj => h j qk
  unfold fnz
  rw [h1, if_neg (by simp), h n (by omega)]
theorem zb8 {f : Nat → Int} {i : Nat} : ∀ {n : Nat}, (∀ j, j < i → f j = 0) → i < n → f i ≠ 0 → fnz f n = f i
 | 0, _, h, _ => by omega
 | n + 1, h1, h2, h3 => by
  unfold fnz
  by_cases e : i = n
  ·subst e
   rw [zcD h1, if_neg (by simp)]
  ·have := zb8 h1 (n := n) qk h3
   rw [this, if_pos h3]
theorem zgG {f : Nat → Int} : ∀ {n : Nat}, fnz f n = 0 → ∀ j, j < n → f j = 0
 | 0, _, j, hj => by omega
 | n + 1, h, j, hj => by
  unfold fnz at h
  by_cases h0 : fnz f n ≠ 0
  ·rw [if_pos h0] at h; exact absurd h h0
  ·rw [if_neg h0] at h
   by_cases e : j = n
   ·subst e; exact h
   ·exact zgG (qaH.1 h0) j qk
theorem zbr {N : Nat} {L : List (List PV)} (h : PV.bdL N L.flatten) : ∀ x ∈ L, PV.bdL N x := fun x hx => zhu.2 fun y hy => zhu.1 h y (List.mem_flatten.2 ⟨x, hx, hy⟩)
def leK (a b : ByteArray) : Bool := sLt a b || decide (a = b)
theorem sLt_empty (a : ByteArray) : sLt a ⟨#[]⟩ = false := by
 unfold sLt
 generalize a.toList = l
 show Op.bytesLess l (ByteArray.toList ⟨#[]⟩) = false
 have : ByteArray.toList ⟨#[]⟩ = [] := by
  unfold ByteArray.toList
  unfold ByteArray.toList.loop
  rfl
 rw [this]
 cases l <;> rfl
def strs (ts : List ByteArray) : List PV := ts.map fun s => qg s
theorem strs_len (ts : List ByteArray) : (strs ts).length = ts.length := by simp [strs]
theorem strs_rep {S : Nat → Prop} {w : World} : ∀ ts : List ByteArray, PRepL S w (strs ts) (ts.map .string)
 | [] => by simp [strs, PRepL]
 | t :: ts => by
  simp only [strs, qaF, PRepL, PRep]
  exact ⟨_, _, rfl, ⟨rfl, rfl⟩, strs_rep ts⟩
theorem strs_get {ts : List ByteArray} {i : Nat} {t : ByteArray} (h : ts[i]? = some t) : (strs ts)[i]? = some (qg t) := by simp [strs, h]
theorem fn_alloc {P : Program} {f : FuncId} {args : List AV} {vs : List Value} {e : TypeId} {n : Nat} {cs : List PV} {us : List Value} (ha : zge args = some vs) (hl : us.length = n) (hn : n ≤ maxLen) (hp : ∀ S w, PRepL S w cs us)
 (h : ∀ w, Calls P f vs.toArray w fun x w' => x = .returned (.slice (some ⟨w.heap.size, 0, none⟩) n n) ∧ w' = w.alloc (.cells us.toArray e)) : Fn P f args (.row 0) [(0, .row e 1 n cs)] := by
 intro w A us' hA hG hus
 rw [zev ha hus]
 refine (h w).mono ?_
 rintro x w' ⟨rfl, rfl⟩
 refine ⟨_, rfl, A, fun o => if o = 0 then some (.slice (some ⟨w.heap.size, 0, none⟩) n n) else none, ?_, (Below.refl _ w).alloc (Nat.le_refl _) _, fun b hb => .inl hb, fun b hb => ?_, fun o ho => ?_, fun o ob ho => ?_, fun o o' ob ob' v v' b ho ho' _ _ _ _ => ?_, hG⟩
 ·simp only [Rep]
  exact ⟨rfl, _, _, _, rfl⟩
 ·have := hA b hb
  show b < (w.heap.push _).size
  rw [Array.size_push]
  omega
 ·by_cases e : o = 0
  ·subst e; cases ho
  ·simp only [if_neg e]
 ·by_cases e : o = 0
  ·subst e
   cases ho
   refine ⟨_, if_pos rfl, ⟨us, hp _ _, by rw [qb0]; exact hl, .inr ⟨w.heap.size, n, us.toArray, (0, 0), rfl, Nat.le_refl _, ?_, .inl rfl, Nat.le_refl _, hn, by simp [hl], ?_⟩⟩, fun b hb hA' => ?_⟩
   ·show (w.heap.push _)[w.heap.size]? = _
    exact Array.getElem?_push_size
   ·simp only [qb0]
    rw [qaN (by simp [hl])]
   ·simp only [blk, Option.some.injEq] at hb
    subst hb
    exact absurd (hA _ hA') (Nat.lt_irrefl _)
  ·simp only [zaT, nbeq e, cond_false] at ho; cases ho
 ·have key : ∀ {o : Nat} {ob : AObj}, zaT [(0, AObj.row e 1 n cs)] o = .live ob → o = 0 := fun {o ob} ho => by
   by_cases e : o = 0
   ·exact e
   ·simp only [zaT, nbeq e, cond_false] at ho; cases ho
  rw [key ho, key ho']
theorem err_reads {P : Program} {w : World} {n : String} {d : DataW Unit} {g t : Nat} {ms : Array (String × TypeId)} (hg : P.globalNamed n = some g) (hty : (P.globals[g]?).map (·.type) = some t) (ht : P.underlying t = some (.interface ms))
 (h : Lib.VarReads P w n d) : ∃ ev t fz, w.heap[g]? = some (.cells #[ev] t fz) ∧ (ev = .nilIface ∨ ∃ te pe, ev = .iface te pe) := by
 obtain ⟨g', t', cs, fuel, p, h1, h2, h3, h4⟩ := h
 obtain rfl := Option.some.inj (hg.symm.trans h1)
 obtain rfl := Option.some.inj (hty.symm.trans h2)
 obtain ⟨ty, fz, h5⟩ := zhk hg h3
 have key : ∃ ev, cs.toList = [ev] ∧ (ev = .nilIface ∨ ∃ te pe, ev = .iface te pe) := by
  cases fuel with
  | zero => simp [DataW.trod] at h4
  | succ fuel =>
   unfold DataW.trod at h4
   rw [ht] at h4
   split at h4 <;> first | cases h4 | skip
   all_goals first | (rename_i e1 e2; cases e1) | skip
   all_goals simp_all
 obtain ⟨ev, h6, h7⟩ := key
 refine ⟨ev, ty, fz, ?_, h7⟩
 rw [h5]
 have : cs = #[ev] := by rw [← Array.toList_inj, h6]
 rw [this]
theorem tab_reads {P : Program} {w : World} {n : String} {g t e m : Nat} {k : IntKind} {zs : List Int} (hg : P.globalNamed n = some g) (hty : (P.globals[g]?).map (·.type) = some t) (ht : P.underlying t = some (.array m e)) (he : P.underlying e = some (.int k)) (hce : P.cellsOf e = 1) (hct : P.cellsOf t = m)
 (h : Lib.VarReads P w n (Lib.tabData k zs)) : ∃ t fz, w.heap[g]? = some (.cells (zs.map fun z => Value.int k z).toArray t fz) := by
 obtain ⟨g', t', cs, fuel, p, h1, h2, h3, h4⟩ := h
 obtain rfl := Option.some.inj (hg.symm.trans h1)
 obtain rfl := Option.some.inj (hty.symm.trans h2)
 obtain ⟨ty, fz, h5⟩ := zhk hg h3
 have := Lib.cells_of_tab ht he hce hct h4
 refine ⟨ty, fz, ?_⟩
 rw [h5, ← this]
end Go.Proofs.YtlfjpippeeikdaaGreatDoor
