/- Used. -/
import Derived.MapKept
import Derived.Test.YtlfjpippeeikdaaGreatDoorSCf3
set_option maxRecDepth 100000
set_option maxHeartbeats 16000000
set_option linter.all false
namespace Go.Proofs.YtlfjpippeeikdaaGreatDoor
open Go.RowKit
open Go.Sort
def zey (d : TypeDesc) (k : Value) : List (Value × Value) → Nat → Option (Option (Nat × Value))
 | [], _ => some none
 | e :: l, i => match Instr.sameNow d k e.1 with
  | some true => some (some (i, e.2))
  | some false => zey d k l (i + 1)
  | none => none
theorem zfU (d : TypeDesc) (k : Value) : ∀ (l : List MapEntry) (i : Nat), Instr.findNow d k l i = zey d k (l.map fun e => (e.key, e.val)) i
 | [], _ => rfl
 | e :: l, i => by
  simp only [Instr.findNow, zey, qbj]
  rw [zfU d k l (i + 1)]
  rfl
def zdt : TypeDesc → Bool
 | .int _ => true
 | .bool => true
 | .string => true
 | _ => false
theorem zdF {P : Program} {t : TypeId} {kd : TypeDesc} (hk : P.underlying t = some kd) (hp : zdt kd = true) (b : Bool) (v : Value) (w : World) : (Instr.checkKey b 10000 t v).run P w = .ok () w := by
 show (Instr.checkKey b (9999 + 1) t v).run P w = .ok () w
 generalize 9999 = d
 cases kd <;> simp only [zdt, qbE] at hp <;> simp [Instr.checkKey, run_underlying hk]
section
variable {P : Program} {d : Option Tmp} {ty : TypeId} {pos : String} {af : Array Edge} {g : Option (Nat × Bool)}
theorem a_makeMap {t : TypeId} (n : Nat) : AOp P ⟨d, .makeMap t none, ty, pos, af, g⟩ [] [(n, .un)] [(n, .live (.map []))] (.mp n) := by
 intro w0 A S m heap w ev hm hR hrd
 have hd : heap n = .un := rd1 hrd
 have hrun : (execOp ev ⟨d, .makeMap t none, ty, pos, af, g⟩).run P w = .ok (.value (.map (some w.heap.size))) (w.alloc (.map #[] 0)) := by
  simp [execOp, Instr.makeMap]
 unfold Out
 rw [hrun]
 have hb : Below w.heap.size w (w.alloc (.map #[] 0)) := (Below.refl _ _).alloc (Nat.le_refl _) _
 have hg := zdv hm hb hd (.map (some w.heap.size))
 obtain ⟨k1, k2⟩ := zdD hm hb n hd (.map (some w.heap.size)) (.map []) (fun b hb => by simp [blk] at hb; omega)
  ⟨w.heap.size, #[], 0, rfl, hm.hB, by simpa using heap_alloc_new w (.map #[] 0), rfl⟩
 exact ⟨S, _, by simp only [Rep]; exact ⟨by simp [setM], _, rfl⟩, k1, k2⟩
theorem mapSet_new {t kt et : TypeId} {kd : TypeDesc} {o : Nat} {kv xv : Value} {es : List (Value × Value)} (hu : P.underlying t = some (.map kt et)) (hk : P.underlying kt = some kd) (hp : zdt kd = true) (hf : zey kd kv es 0 = some none)
 {w0 : World} {A S : Nat → Prop} {m : Nat → Option Value} {heap : Nat → Slot} {w : World} (hm : Mem w0 A S m heap w) (ho : heap o = .live (.map es)) {mv : Value} (hv : Rep S m w (.mp o) mv) :
 ∃ w', (Instr.mapUpdate t mv kv xv).run P w = .ok () w' ∧ Mem w0 A S m (updL heap [(o, .live (.map (es ++ [(kv, xv)])))]) w' ∧ Grow S m w S m w' := by
 simp only [Rep] at hv
 obtain ⟨hx, r, rfl⟩ := hv
 obtain ⟨v, k1, k2, k3⟩ := hm.live o _ ho
 rw [hx] at k1; cases k1
 obtain ⟨r', arr, ck, e1, g1, g2, g3⟩ := k2
 obtain rfl : r' = r := by simpa using e1.symm
 have hnow : Instr.findNow kd kv arr.toList 0 = some none := qa8
 have hfk := MapKept.run_findKey (w := w) hk hnow
 have hck := zdF hk hp false kv w
 have hlt : r' < w.heap.size := (qbC.1 g2).1
 refine ⟨{ w with heap := w.heap.setIfInBounds r' (.map (arr.push { key := kv, val := xv, born := ck }) (ck + 1)) }, ?_, ?_⟩
 ·exact jcB
 ·have q5 : ∀ k, k ≠ r' → (w.heap.setIfInBounds r' (.map (arr.push { key := kv, val := xv, born := ck }) (ck + 1)))[k]? = w.heap[k]? := fun k hk => by
   rw [qcm (Ne.symm hk)]
  exact ziZ hm (w' := { w with heap := w.heap.setIfInBounds r' (.map (arr.push { key := kv, val := xv, born := ck }) (ck + 1)) }) (ob' := .map (es ++ [(kv, xv)])) (v := .map (some r')) ho hx rfl rfl rfl rfl qC q5
   ⟨r', arr.push { key := kv, val := xv, born := ck }, ck + 1, rfl, g1, by simp [hlt], by simp [g3]⟩
theorem zh3 {t kt et : TypeId} {kd : TypeDesc} {o : Nat} {kv xv : Value} {es : List (Value × Value)} {x y z : Operand} (hu : P.underlying t = some (.map kt et)) (hk : P.underlying kt = some kd) (hp : zdt kd = true) (hf : zey kd kv es 0 = some none) :
 AOp P ⟨d, .mapUpdate t x y z, ty, pos, af, g⟩ [.mp o, .p (.v kv), .p (.v xv)] [(o, .live (.map es))] [(o, .live (.map (es ++ [(kv, xv)])))] .any := by
 intro w0 A S m heap w ev hm hR hrd
 obtain ⟨h1, h2, h3⟩ := zhu (u := ev x) (v := ev y) (t := ev z) hR
 obtain ⟨w', hrun, q1, q2⟩ := mapSet_new (xv := xv) hu hk hp hf hm (rd1 hrd) h1
 exact jbS
theorem mapSet_old {t kt et : TypeId} {kd : TypeDesc} {o i : Nat} {kv xv ov : Value} {es : List (Value × Value)} (hu : P.underlying t = some (.map kt et)) (hk : P.underlying kt = some kd) (hp : zdt kd = true) (hq : MapKept.IsKey kd kv) (hf : zey kd kv es 0 = some (some (i, ov))) (hi : es[i]? = some (kv, ov))
 {w0 : World} {A S : Nat → Prop} {m : Nat → Option Value} {heap : Nat → Slot} {w : World} (hm : Mem w0 A S m heap w) (ho : heap o = .live (.map es)) {mv : Value} (hv : Rep S m w (.mp o) mv) :
 ∃ w', (Instr.mapUpdate t mv kv xv).run P w = .ok () w' ∧ Mem w0 A S m (updL heap [(o, .live (.map (es.set i (kv, xv))))]) w' ∧ Grow S m w S m w' := by
 simp only [Rep] at hv
 obtain ⟨hx, r, rfl⟩ := hv
 obtain ⟨v, k1, k2, k3⟩ := hm.live o _ ho
 rw [hx] at k1; cases k1
 obtain ⟨r', arr, ck, e1, g1, g2, g3⟩ := k2
 obtain rfl : r' = r := by simpa using e1.symm
 have hnow : Instr.findNow kd kv arr.toList 0 = some (some (i, ov)) := qa8
 have hfk := MapKept.run_findKey (w := w) hk hnow
 have hck := zdF hk hp false kv w
 have hlt : r' < w.heap.size := (qbC.1 g2).1
 have hai : ∃ e, arr[i]? = some e ∧ e.key = kv := by
  rw [← g3, qbV] at hi
  simp only [qcz, Prod.mk.injEq] at hi
  obtain ⟨e, h1, h2, h3⟩ := hi
  exact ⟨e, by rw [← Array.getElem?_toList]; exact h1, h2⟩
 obtain ⟨e, he, hek⟩ := hai
 have hst := MapKept.run_keyThatStays (P := P) (w := w) hq
 have hnew : (arr.modify i fun e => { e with key := kv, val := xv }).toList.map (fun e => (e.key, e.val)) = es.set i (kv, xv) := by
  rw [← g3]
  apply qcS
  intro j
  rw [qbV, List.getElem?_set, Array.getElem?_toList, Array.getElem?_modify]
  by_cases hj : i = j
  ·subst hj
   have hlt2 : i < arr.size := (qbC.1 he).1
   simp [he, hlt2]
  ·simp [hj]
 refine ⟨{ w with heap := w.heap.setIfInBounds r' (.map (arr.modify i fun e => { e with key := kv, val := xv }) ck) }, ?_, ?_⟩
 ·simp only [Instr.mapUpdate, qbp, run_underlying hu, qbi, MapKept.run_getObj_map g2, hck, hfk, he, qcQ, Option.getD_some, hek, hst]
  exact MapKept.run_setObj_map _ g2
 ·have q5 : ∀ k, k ≠ r' → (w.heap.setIfInBounds r' (.map (arr.modify i fun e => { e with key := kv, val := xv }) ck))[k]? = w.heap[k]? := fun k hk => by
   rw [qcm (Ne.symm hk)]
  exact ziZ hm (w' := { w with heap := w.heap.setIfInBounds r' (.map (arr.modify i fun e => { e with key := kv, val := xv }) ck) }) (ob' := .map (es.set i (kv, xv))) (v := .map (some r')) ho hx rfl rfl rfl rfl qC q5
   ⟨r', arr.modify i fun e => { e with key := kv, val := xv }, ck, rfl, g1, by simp [hlt], hnew⟩
theorem a_mapUpdateO {t kt et : TypeId} {kd : TypeDesc} {o i : Nat} {kv xv ov : Value} {es : List (Value × Value)} {x y z : Operand} (hu : P.underlying t = some (.map kt et)) (hk : P.underlying kt = some kd) (hp : zdt kd = true) (hq : MapKept.IsKey kd kv) (hf : zey kd kv es 0 = some (some (i, ov))) (hi : es[i]? = some (kv, ov)) :
 AOp P ⟨d, .mapUpdate t x y z, ty, pos, af, g⟩ [.mp o, .p (.v kv), .p (.v xv)] [(o, .live (.map es))] [(o, .live (.map (es.set i (kv, xv))))] .any := by
 intro w0 A S m heap w ev hm hR hrd
 obtain ⟨h1, h2, h3⟩ := zhu (u := ev x) (v := ev y) (t := ev z) hR
 obtain ⟨w', hrun, q1, q2⟩ := mapSet_old (xv := xv) hu hk hp hq hf hi hm (rd1 hrd) h1
 exact jbS
def gotV (z : Value) : Option (Nat × Value) → Value
 | some p => p.2
 | none => z
theorem a_lookup {t kt et : TypeId} {kd : TypeDesc} {o : Nat} {kv z r : Value} {f : Option (Nat × Value)} {es : List (Value × Value)} {x y : Operand} (hu : P.underlying t = some (.map kt et)) (hk : P.underlying kt = some kd) (hp : zdt kd = true)
 (hz : (P.info? et).map (·.zero) = some (some z)) (hf : zey kd kv es 0 = some f) (hr : gotV z f = r) (h1 : r.oneCell' = true) :
 AOp P ⟨d, .lookup t x y false, ty, pos, af, g⟩ [.mp o, .p (.v kv)] [(o, .live (.map es))] [] (.p (.v r)) :=
 zbv fun w0 A S m heap w ev hm hR hrd => by
  obtain ⟨q1, q2⟩ := zcj (u := ev x) (v := ev y) hR
  have ho := rd1 hrd
  simp only [Rep] at q1
  obtain ⟨hx, b, hb⟩ := q1
  obtain ⟨v, k1, k2, k3⟩ := hm.live o _ ho
  rw [hx] at k1; cases k1
  obtain ⟨r', arr, ck, e1, g1, g2, g3⟩ := k2
  have hnow : Instr.findNow kd kv arr.toList 0 = some f := qa8
  have hfk := MapKept.run_findKey (w := w) hk hnow
  have hck := zdF hk hp arr.isEmpty kv w
  have hzv : (zeroValue et).run P w = .ok z w := by
   cases hq : P.info? et with
   | none => simp [hq] at hz
   | some i =>
    simp [hq] at hz
    simp [zeroValue, typeInfo, hq, hz]
  refine ⟨r, ?_, za1 h1⟩
  simp only [execOp, e1, za8 q2, Instr.lookup, qbp, run_underlying hu, qbi, MapKept.run_getObj_map g2, hck, hfk, qbq]
  cases f with
  | none => simp only [qbp, hzv, qbi, qbq, qbE, if_false]; rw [← hr]; rfl
  | some p => simp only [qbp, qbi, qbq, qbE, if_false]; rw [← hr]; rfl
end
open Tryz
def CK (P : Program) (kt : TypeId) (kv : Value) : Prop := ∀ (b : Bool) (w : World), (Instr.checkKey b 10000 kt kv).run P w = .ok () w
def FK (P : Program) (kt : TypeId) (kv : Value) (es : List (Value × Value)) (f : Option (Nat × Value)) : Prop :=
 ∀ (l : List MapEntry) (w : World), (l.map fun e => (e.key, e.val)) = es → (Instr.findKey kt kv l).run P w = .ok f w
section
variable {P : Program} {d : Option Tmp} {ty : TypeId} {pos : String} {af : Array Edge} {g : Option (Nat × Bool)}
theorem a_lookupF {t kt et : TypeId} {o : Nat} {kv z r : Value} {X : AV} {f : Option (Nat × Value)} {es : List (Value × Value)} {x y : Operand} (hu : P.underlying t = some (.map kt et)) (hX : ∀ S m w u, Rep S m w X u → u = kv) (hc : CK P kt kv)
 (hz : (P.info? et).map (·.zero) = some (some z)) (hf : FK P kt kv es f) (hr : gotV z f = r) (h1 : r.oneCell' = true) :
 AOp P ⟨d, .lookup t x y false, ty, pos, af, g⟩ [.mp o, X] [(o, .live (.map es))] [] (.p (.v r)) :=
 zbv fun w0 A S m heap w ev hm hR hrd => by
  obtain ⟨q1, q2⟩ := zcj (u := ev x) (v := ev y) hR
  have ho := rd1 hrd
  simp only [Rep] at q1
  obtain ⟨hx, b, hb⟩ := q1
  obtain ⟨v, k1, k2, k3⟩ := hm.live o _ ho
  rw [hx] at k1; cases k1
  obtain ⟨r', arr, ck, e1, g1, g2, g3⟩ := k2
  have hfk := hf arr.toList w g3
  have hck := hc arr.isEmpty w
  have hzv : (zeroValue et).run P w = .ok z w := by
   cases hq : P.info? et with
   | none => simp [hq] at hz
   | some i =>
    simp [hq] at hz
    simp [zeroValue, typeInfo, hq, hz]
  refine ⟨r, ?_, za1 h1⟩
  simp only [execOp, e1, hX _ _ _ _ q2, Instr.lookup, qbp, run_underlying hu, qbi, MapKept.run_getObj_map g2, hck, hfk, qbq]
  cases f with
  | none => simp only [qbp, hzv, qbi, qbq, qbE, if_false]; rw [← hr]; rfl
  | some p => simp only [qbp, qbi, qbq, qbE, if_false]; rw [← hr]; rfl
theorem a_mapUpdateF {t kt et : TypeId} {o : Nat} {kv xv : Value} {X : AV} {es : List (Value × Value)} {x y z : Operand} (hu : P.underlying t = some (.map kt et)) (hX : ∀ S m w u, Rep S m w X u → u = kv) (hc : CK P kt kv) (hf : FK P kt kv es none) :
 AOp P ⟨d, .mapUpdate t x y z, ty, pos, af, g⟩ [.mp o, X, .p (.v xv)] [(o, .live (.map es))] [(o, .live (.map (es ++ [(kv, xv)])))] .any := by
 intro w0 A S m heap w ev hm hR hrd
 obtain ⟨h1, h2, h3⟩ := zhu (u := ev x) (v := ev y) (t := ev z) hR
 have ho := rd1 hrd
 simp only [Rep] at h1
 obtain ⟨hx, r, hmv⟩ := h1
 obtain ⟨v, k1, k2, k3⟩ := hm.live o _ ho
 rw [hx] at k1; cases k1
 obtain ⟨r', arr, ck, e1, g1, g2, g3⟩ := k2
 obtain rfl : r' = r := by rw [hmv] at e1; simpa using e1.symm
 have hfk := hf arr.toList w g3
 have hck := hc false w
 have hlt : r' < w.heap.size := (qbC.1 g2).1
 have hrun : (Instr.mapUpdate t (.map (some r')) kv xv).run P w = .ok () { w with heap := w.heap.setIfInBounds r' (.map (arr.push { key := kv, val := xv, born := ck }) (ck + 1)) } := by
  exact jcB
 have q5 : ∀ k, k ≠ r' → (w.heap.setIfInBounds r' (.map (arr.push { key := kv, val := xv, born := ck }) (ck + 1)))[k]? = w.heap[k]? := fun k hk => by
  rw [qcm (Ne.symm hk)]
 rw [hmv] at hx
 obtain ⟨q1, q2⟩ := ziZ hm (w' := { w with heap := w.heap.setIfInBounds r' (.map (arr.push { key := kv, val := xv, born := ck }) (ck + 1)) }) (ob' := .map (es ++ [(kv, xv)])) (v := .map (some r')) ho hx rfl rfl rfl rfl qC q5
  ⟨r', arr.push { key := kv, val := xv, born := ck }, ck + 1, rfl, g1, by simp [hlt], by simp [g3]⟩
 have hex : (execOp ev ⟨d, .mapUpdate t x y z, ty, pos, af, g⟩).run P w = .ok .skip { w with heap := w.heap.setIfInBounds r' (.map (arr.push { key := kv, val := xv, born := ck }) (ck + 1)) } := by
  simp only [execOp, hX _ _ _ _ h2, za8 h3, hmv, qbp, hrun, qbi]
  rfl
 unfold Out
 rw [hex]
 exact ⟨S, m, by simp only [Rep], q1, q2⟩
end
def netK (n : NtP) : Value := .agg #[.int .u32 n.1, .int .i64 n.2]
def netE (D : List NtP) : List (Value × Value) := D.map fun n => (netK n, .bool true)
theorem netX (n : NtP) : ∀ S m w u, Rep S m w (.agg [qe n.1, qd n.2]) u → u = netK n := by
 intro S m w u h
 simp only [Rep] at h
 obtain ⟨us, rfl, h2, _⟩ := h
 have := zdI (cs := [qe n.1, qd n.2]) (xs := [.int .u32 n.1, .int .i64 n.2]) rfl h2
 rw [this]
 rfl
theorem netEq (n m : NtP) (w : World) : (Op.equal 82 (netK n) (netK m)).run prog w = .ok (decide (n = m)) w := by
 have h := zfl (P := prog) 20 10000 qp 82 [.int .u32 n.1, .int .i64 n.2] [.int .u32 m.1, .int .i64 m.2] w qr qr
 have e : eqL [Value.int .u32 n.1, .int .i64 n.2] [.int .u32 m.1, .int .i64 m.2] = decide (n = m) := by
  rw [qbX, zaN, decide_eq_true_eq]
  obtain ⟨a, b⟩ := n
  obtain ⟨c, d⟩ := m
  simp
 rw [e] at h
 exact h
theorem netCK (n : NtP) : CK prog 82 (netK n) := by
 intro b w
 show (Instr.checkKey b (9998 + 1 + 1) _ _).run _ _ = _
 generalize 9998 = k
 simp [Instr.checkKey, run_underlying U82, netK]
 simp [part, zek U80, zek U3, TypeDesc.isRow]
def atN (n : NtP) : List NtP → Nat → Option (Nat × Value)
 | [], _ => none
 | m :: D, i => if n = m then some (i, .bool true) else atN n D (i + 1)
theorem atN_got (n : NtP) : ∀ (D : List NtP) (i : Nat), gotV (.bool false) (atN n D i) = .bool (decide (n ∈ D))
 | [], i => rfl
 | m :: D, i => by
  unfold atN
  by_cases e : n = m
  ·simp [e, gotV]
  ·rw [if_neg e, atN_got n D (i + 1)]
   simp [e]
theorem atN_none {n : NtP} : ∀ {D : List NtP} (i : Nat), n ∉ D → atN n D i = none
 | [], i, h => rfl
 | m :: D, i, h => by
  have h1 : n ≠ m := fun e => h (by simp [e])
  unfold atN
  rw [if_neg h1]
  exact atN_none (i + 1) fun hh => h (by simp [hh])
theorem netAsk (n : NtP) : ∀ (l : List MapEntry) (D : List NtP) (i : Nat) (w : World), (l.map fun e => (e.key, e.val)) = netE D →
 (Instr.findAsking 82 (netK n) l i).run prog w = .ok (atN n D i) w
 | [], D, i, w, h => by
  have hD : D = [] := by simpa [netE] using h.symm
  subst hD
  rfl
 | e :: l, D, i, w, h => by
  match D, h with
  | [], h => simp [netE] at h
  | m :: D, h =>
   simp only [netE, qbj, List.cons.injEq, Prod.mk.injEq] at h
   obtain ⟨⟨h1, h2⟩, h3⟩ := h
   have ih := netAsk n l D (i + 1) w h3
   have hq := netEq n m w
   rw [← h1] at hq
   simp only [Instr.findAsking, qbp, hq, qbi, atN]
   by_cases e : n = m
   ·simp only [e, decide_true, if_true, h2, qbq]
   ·simp only [e, decide_false, qbE, if_false, ih]
theorem netFK (n : NtP) (D : List NtP) : FK prog 82 (netK n) (netE D) (atN n D 0) := by
 intro l w hl
 have h2 := netAsk n l D 0 w hl
 unfold Instr.findKey
 rw [qbp, run_underlying U82]
 simp only [qbi]
 cases l with
 | nil =>
  have hD : D = [] := by simpa [netE] using hl.symm
  subst hD
  rfl
 | cons e l => exact h2
theorem netFN {n : NtP} {D : List NtP} (h : n ∉ D) : FK prog 82 (netK n) (netE D) none := by
 have := netFK n D
 rwa [atN_none 0 h] at this
theorem key_ne' : ¬ keyE ⟨#[]⟩ = 0 := qap
def lastP (l : List PE) (i : Nat) : ByteArray := if i = 0 then ⟨#[]⟩ else (peG l (i - 1)).key
theorem lastP_le (l : List PE) (i : Nat) (k : ByteArray) (hk : k ≠ ⟨#[]⟩) : leK k (lastP l i) = true ↔ (0 < i ∧ leK k (peG l (i - 1)).key = true) := by
 unfold lastP
 by_cases h : i = 0
 ·rw [if_pos h]
  constructor
  ·intro h1
   unfold leK at h1
   rw [sLt_empty] at h1
   simp at h1
   exact absurd h1 hk
  ·rintro ⟨h1, _⟩
   omega
 ·rw [if_neg h]
  constructor
  ·exact fun h1 => ⟨qp, h1⟩
  ·exact fun h1 => h1.2
theorem netE_push (X : List NtP) (q : NtP) : netE X ++ [(netK q, Value.bool true)] = netE (X ++ [q]) := by simp [netE]
theorem zaP (c : CF) (ok : c.OK) : Fn prog 46 [.agg c.cells] (qd (cfE c)) [] := by
 obtain ⟨key, port, l⟩ := c
 obtain ⟨hn, ok⟩ := ok
 dsimp only at hn ok
 obtain ⟨E, hE⟩ : ∃ E, cfE ⟨key, port, l⟩ = E := ⟨_, rfl⟩
 rw [hE]
 unfold cfE at hE
 dsimp only at hE
 have hK := zbP key
 show Fn prog _ [.agg (cfC key port l.length (l.flatMap PE.pv))] _ _
 generalize keyE key = k1 at *
 refine fnI fun w0 A => ?_
 refine G [5] ?_
 by_cases hk : key ≠ ⟨#[]⟩ ∧ k1 ≠ 0
 ·rw [if_pos hk] at hE
  subst hE
  refine G [5] ?_
  refine zaa (a_sneqV (c := true) (by simp [hk.1])) rfl rfl ?_
  refine G [3] ?_
  (first | refine zbX rfl ?_ | refine zbG (fun n => 16 + 1000 * n) (hK) rfl rfl func82 rfl rfl qK qK rfl rfl rfl qq rfl rfl rfl ?_)
  refine zaa (a_neqV (c := true) (by simp [hk.2])) rfl rfl ?_
  refine G [7] ?_
  refine cV hK ?_
  refine jdR ?_
  exact yE
 rw [if_neg hk] at hE
 refine G [2] ?_
 refine awp_joinS (St.of [(1, .ref 1 0)] [(1, .box 24 (cfC key port l.length (l.flatMap PE.pv)))]) ?_ ?_
 ·by_cases hk0 : key = ⟨#[]⟩
  ·skip
   refine G [3, 3, 9, 9, 0] ?_
   exact jaw
  ·have hk1 : k1 = 0 := qbk.1 fun e => hk ⟨hk0, e⟩
   skip
   refine G [3, 4, 3] ?_
   (first | refine zbX rfl ?_ | refine zbG (fun n => 16 + 1000 * n) (hK) rfl rfl func82 rfl rfl qK qK rfl rfl rfl qq rfl rfl rfl ?_)
   refine G [0, 3, 4, 9, 0] ?_
   exact zae id _ _ qt qt rfl
 clear hk hK
 refine G [10, 2, 1, 9, 0] ?_
 refine cX ?_ ?_ <;> intro h
 ·have h5 : port < 0 ∨ 65535 < port := qz
  exact jcY
 have h5 : ¬ (port < 0 ∨ 65535 < port) := qu
 clear h
 rw [if_neg h5] at hE
 refine G [9, 9, 0] ?_
 refine cX ?_ ?_ <;> intro h
 ·exact jb7
 have h6 : ¬ 6 < l.length := qu
 clear h
 rw [if_neg h6] at hE
 refine G [3] ?_
 refine jfc (a_makeMap 34) ?_
 refine G [15] ?_
 refine zac (fun m st => ∃ i : Nat, m + i = l.length ∧ (∀ j, j < i → zdV key l j = 0) ∧ st = St.of [(1, .ref 1 0), (3, .mp 34), (4, qc (lastP l i)), (36, ql l.length 5 (l.flatMap PE.pv)), (37, qd l.length), (38, qd i)] [(1, .box 24 (cfC key port l.length (l.flatMap PE.pv))), (34, .map (netE (zck l i)))]) l.length ?_ ?_
 ·exact jaT
 rintro m st ⟨i, hi, hf, rfl⟩
 refine G [5] ?_
 refine cX ?_ ?_ <;> intro h
 ·have hlt : i < l.length := qu
  clear h
  obtain ⟨p, hp⟩ := qo hlt
  have hch := zaj (f := PE.pv) (k := 5) (fun _ => rfl) hp
  have hle := zai (f := PE.pv) (k := 5) (fun _ => rfl) hlt
  obtain ⟨hok, hpl⟩ := ok p (qbh hp)
  have hC := refPeer_s p hok
  have hhit := @zca (zdV key l) i l.length hf hlt
  have hst : zdV key l i = if peE p ≠ 0 then peE p else if (0 < i ∧ leK p.key (peG l (i - 1)).key = true) ∨ p.key = key then 6 else if dupN (zck l i) p.nets = true then 6 else 0 := by unfold zdV; rw [zch hp]
  have hgood := @zcU p
  have hnx := zgn hp
  have hlN : lastP l (i + 1) = p.key := by unfold lastP; rw [if_neg (by omega), Nat.add_sub_cancel, zch hp]
  generalize hL : l.flatMap PE.pv = L at *
  generalize peE p = e at *
  refine G [8] ?_
  refine jej ?_
  refine G [4] ?_
  refine jeA ?_
  refine cK hC ?_
  refine jdv ?_
  refine cX ?_ ?_ <;> intro h
  ·exact jc3
  have h7 : e = 0 := qz
  clear h
  rw [if_neg (by simp [h7])] at hst
  obtain ⟨hn8, hkey⟩ := hgood h7
  have hkne : p.key ≠ ⟨#[]⟩ := fun e => key_ne' (by rw [e] at hkey; exact hkey)
  simp only [← lastP_le l i p.key hkne] at hst
  generalize hLK : lastP l i = lk at *
  by_cases hlk : leK p.key lk = true
  ·rw [if_pos (.inl hlk)] at hst
   rw [hhit (by rw [hst]; decide), hst] at hE
   subst hE
   refine G [7] ?_
   refine jfb (zgE (c := true) (hlk)) ?_
   refine G [14, 9, 0] ?_
   exact yE
  by_cases hkk : p.key = key
  ·rw [if_pos (.inr hkk)] at hst
   rw [hhit (by rw [hst]; decide), hst] at hE
   subst hE
   refine G [7] ?_
   refine zaa (zgE (c := false) qa9) rfl rfl ?_
   refine G [5] ?_
   refine jeK ?_
   exact jbh
  rw [if_neg (by simp [hlk, hkk])] at hst
  refine G [7] ?_
  refine zaa (zgE (c := false) qa9) rfl rfl ?_
  refine G [5] ?_
  refine jfb (zbp (c := false) (decide_eq_false hkk)) ?_
  refine G [3] ?_
  obtain ⟨DD, hDD⟩ : ∃ b, dupN (zck l i) p.nets = b := ⟨_, rfl⟩
  rw [hDD] at hst
  refine G [15] ?_
  refine zac (fun m' st => ∃ j : Nat, m' + j = p.nets.length ∧ ∃ X : List NtP, DD = dupN X (p.nets.drop j) ∧ X = zck l i ++ p.nets.take j ∧ st = St.of [(1, .ref 1 0), (3, .mp 34), (4, qc p.key), (36, ql l.length 5 L), (37, qd l.length), (38, qd i), (61, ql p.nets.length 2 (p.nets.flatMap ntC)), (62, qd p.nets.length), (63, qd j)] [(1, .box 24 (cfC key port l.length L)), (34, .map (netE X))]) p.nets.length ?_ ?_
  ·refine ⟨_, zae id _ _ ?_ ?_ rfl, 0, qp, zck l i, by rw [qch]; exact hDD.symm, qC, rfl⟩
   ·exact jap
   ·exact ja5
  rintro m' st ⟨j, hj, X, hdp, hXe, rfl⟩
  refine G [5] ?_
  refine cX ?_ ?_ <;> intro h
  ·have hlj : j < p.nets.length := qu
   clear h
   obtain ⟨q, hq⟩ := qo hlj
   have hch2 := zaj (f := ntC) (k := 2) (fun _ => rfl) hq
   have hle2 := zai (f := ntC) (k := 2) (fun _ => rfl) hlj
   have hdr : p.nets.drop j = q :: p.nets.drop (j + 1) := by
    obtain ⟨q1, q2⟩ := qbl.1 hq
    rw [qbY q1, q2]
   have htk : p.nets.take (j + 1) = p.nets.take j ++ [q] := by
    obtain ⟨q1, q2⟩ := qbl.1 hq
    exact jdd
   rw [hdr, dupN] at hdp
   obtain ⟨qa, qb⟩ := q
   have hpush := netE_push X (qa, qb)
   have hgot := atN_got (qa, qb) X 0
   generalize hNL : p.nets.flatMap ntC = NL at *
   refine je5 ?_
   by_cases hm : (qa, qb) ∈ X
   ·rw [show (decide ((qa, qb) ∈ X) || dupN (X ++ [(qa, qb)]) (p.nets.drop (j + 1))) = true by simp [hm]] at hdp
    rw [if_pos hdp] at hst
    rw [hhit (by rw [hst]; decide), hst] at hE
    subst hE
    rw [decide_eq_true hm] at hgot
    refine G [5] ?_
    refine jfc (a_lookupF underlying128 (netX (qa, qb)) (netCK _) zr4 (netFK (qa, qb) X) hgot rfl) ?_
    refine G [6] ?_
    exact ja8
   ·rw [show (decide ((qa, qb) ∈ X) || dupN (X ++ [(qa, qb)]) (p.nets.drop (j + 1))) = dupN (X ++ [(qa, qb)]) (p.nets.drop (j + 1)) by simp [hm]] at hdp
    rw [decide_eq_false hm] at hgot
    refine G [5] ?_
    refine jfc (a_lookupF underlying128 (netX (qa, qb)) (netCK _) zr4 (netFK (qa, qb) X) hgot rfl) ?_
    refine G [6] ?_
    refine jfc (a_mapUpdateF underlying128 (netX (qa, qb)) (netCK _) (netFN hm)) ?_
    refine jdD ?_
    refine ⟨m' - 1, qp, _, zae id _ _ ?_ ?_ rfl, j + 1, qp, X ++ [(qa, qb)], hdp, by rw [htk, ← qbB, hXe], rfl⟩
    ·exact jap
    ·exact ⟨⟨rfl, rfl⟩, ⟨congrArg (fun x => Slot.live (AObj.map x)) hpush, rfl⟩, trivial⟩
  have hge : j = p.nets.length := qu
  clear h
  subst hge
  rw [qbI] at hXe
  have hz : dupN X (p.nets.drop p.nets.length) = false := by rw [List.drop_length]; rfl
  rw [hz] at hdp
  rw [if_neg (by rw [hdp]; decide)] at hst
  refine jdD ?_
  refine ⟨m - 1, qp, _, zae id _ _ ?_ ?_ rfl, i + 1, qp, fun q hq => ?_, rfl⟩
  ·refine ⟨⟨rfl, rfl⟩, ⟨rfl, rfl⟩, ⟨?_, rfl⟩, ⟨rfl, rfl⟩, ⟨rfl, rfl⟩, ⟨rfl, rfl⟩, trivial⟩
   rw [hlN]
   rfl
  ·refine ⟨⟨rfl, rfl⟩, ⟨?_, rfl⟩, trivial⟩
   rw [hnx, ← hXe]
   rfl
  ·exact jbX
 have hge : i = l.length := qu
 clear h
 subst hge
 rw [zcP hf] at hE
 subst hE
 refine jdI ?_
 exact yE
theorem SE.of_ty {n : Nat} {ps : List PV} (h : Ty Tryz.prog (n + 3) 107 ps) (hb : PV.bdL 1048576 ps) : ∃ s : SE, s.OK ∧ ps = s.pv := by
 obtain ⟨_, rfl, x0, _, rfl, t0, x1, _, rfl, t1, x2, _, rfl, t2, x3, _, rfl, t3, rfl⟩ := zbi (ts := [3, 9, 3, 82]) qr h
 obtain ⟨k, rfl, hk⟩ := zbz U3 t0
 obtain ⟨t, rfl, _⟩ := zbD U9 t1
 obtain ⟨m, rfl, hm⟩ := zbz U3 t2
 obtain ⟨_, rfl, y0, _, rfl, u0, y1, _, rfl, u1, rfl⟩ := zbi (ts := [80, 3]) qr t3
 obtain ⟨a, rfl, ha⟩ := zbz U80 u0
 obtain ⟨b, rfl, hb'⟩ := zbz U3 u1
 obtain ⟨m0, m1⟩ := zeS hm
 obtain ⟨a0, a1⟩ := wf_u32 ha
 refine ⟨⟨k, t, m, a, b⟩, ⟨?_, m0, m1, a0, a1⟩, rfl⟩
 simp [PV.bdL, PV.bd] at hb
 show t.size < _
 omega
theorem SE.list_ty {n : Nat} {ps : List PV} (h : Ty Tryz.prog (n + 4) 27 ps) (hb : PV.bdL 1048576 ps) : ∃ l : List SE, (∀ s ∈ l, s.OK) ∧ l.length ≤ 1048576 ∧ ps = [.sl l.length 5 (l.flatMap SE.pv)] := by
 obtain ⟨L, rfl, h2, h3⟩ := zfr (sz := 5) U27 qr h
 simp only [PV.bdL, PV.bd, and_true] at hb
 obtain ⟨l, k1, k2, k3⟩ := zgh (f := SE.pv) (Q := SE.OK) (L := L) fun x hx => by
  obtain ⟨s, h4, h5⟩ := SE.of_ty (n := n) (h3 x hx).1 (zbs hb.2 x hx)
  exact ⟨s, h4, h5⟩
 exact jdl
theorem refCheck1_s (t : ByteArray) (n a b : Int) (ok : SE.OK ⟨1, t, n, a, b⟩) : Fn prog 86 [.agg (SE.cells ⟨1, t, n, a, b⟩)] (qd (seE ⟨1, t, n, a, b⟩)) [] := by
 obtain ⟨hz, hn0, hn1, ha0, ha1⟩ := ok
 dsimp only at hz hn0 hn1 ha0 ha1
 obtain ⟨E, hE⟩ : ∃ E, seE ⟨1, t, n, a, b⟩ = E := ⟨_, rfl⟩
 rw [hE]
 unfold seE at hE
 rw [if_neg (by dsimp only; decide)] at hE
 refine jd0 ?_
 have hH := zbP t
 refine fnI fun w0 A => ?_
 refine jeO ?_
 refine zab (zat U168 sz9 qp qp (show _ = 1 from rfl)) rfl rfl ⟨rfl, trivial⟩ ?_
 refine G [3] ?_
 by_cases ht : t ≠ ⟨#[]⟩
 ·by_cases hn : n ≠ 0
  ·rw [if_pos (show seF ⟨1, t, n, a, b⟩ by simp [seF, isT, isN, isC, *])] at hE
   exact jcq
  replace hn : n = 0 := qbk.1 hn
  by_cases hq : a = 0 ∧ b = 0
  ·refine G [5, 4, 2, 3, 4, 3, 9] ?_
   exact jb1
  ·rw [if_pos (show seF ⟨1, t, n, a, b⟩ by simp [seF, isT, isN, isC]; omega)] at hE
   exact jcQ
 replace ht : t = ⟨#[]⟩ := qbk.1 ht
 by_cases hn : n ≠ 0
 ·rw [if_pos (show seF ⟨1, t, n, a, b⟩ by simp [seF, isT, isN, isC, *])] at hE
  exact jbv
 replace hn : n = 0 := qbk.1 hn
 by_cases hq : a = 0 ∧ b = 0
 ·refine G [5, 3, 7, 3, 9] ?_
  exact jb1
 ·rw [if_pos (show seF ⟨1, t, n, a, b⟩ by simp [seF, isT, isN, isC]; omega)] at hE
  exact jbG
theorem refCheck2_s (t : ByteArray) (n a b : Int) (ok : SE.OK ⟨2, t, n, a, b⟩) : Fn prog 86 [.agg (SE.cells ⟨2, t, n, a, b⟩)] (qd (seE ⟨2, t, n, a, b⟩)) [] := by
 obtain ⟨hz, hn0, hn1, ha0, ha1⟩ := ok
 dsimp only at hz hn0 hn1 ha0 ha1
 obtain ⟨E, hE⟩ : ∃ E, seE ⟨2, t, n, a, b⟩ = E := ⟨_, rfl⟩
 rw [hE]
 unfold seE at hE
 rw [if_neg (by dsimp only; decide)] at hE
 refine jd1 ?_
 refine fnI fun w0 A => ?_
 refine jeO ?_
 refine zab (zat U168 sz9 qp qp (show _ = 2 from rfl)) rfl rfl ⟨rfl, trivial⟩ ?_
 refine G [3] ?_
 by_cases ht : t ≠ ⟨#[]⟩
 ·rw [if_pos (show seF ⟨2, t, n, a, b⟩ by simp [seF, isT, isN, isC, *])] at hE
  exact jca
 replace ht : t = ⟨#[]⟩ := qbk.1 ht
 by_cases hn : n ≠ 0
 ·by_cases hq : a = 0 ∧ b = 0
  ·refine G [5, 3, 7, 4, 2, 3, 6] ?_
   exact jbM
  ·rw [if_pos (show seF ⟨2, t, n, a, b⟩ by simp [seF, isT, isN, isC]; omega)] at hE
   subst hE
   refine G [5, 3, 7, 4, 2, 3, 6] ?_
   exact jay
 replace hn : n = 0 := qbk.1 hn
 by_cases hq : a = 0 ∧ b = 0
 ·refine G [5, 3, 7, 3, 9] ?_
  exact jbM
 ·rw [if_pos (show seF ⟨2, t, n, a, b⟩ by simp [seF, isT, isN, isC]; omega)] at hE
  exact jbG
theorem refCheck3_s (t : ByteArray) (n a b : Int) (ok : SE.OK ⟨3, t, n, a, b⟩) : Fn prog 86 [.agg (SE.cells ⟨3, t, n, a, b⟩)] (qd (seE ⟨3, t, n, a, b⟩)) [] := by
 obtain ⟨hz, hn0, hn1, ha0, ha1⟩ := ok
 dsimp only at hz hn0 hn1 ha0 ha1
 obtain ⟨E, hE⟩ : ∃ E, seE ⟨3, t, n, a, b⟩ = E := ⟨_, rfl⟩
 rw [hE]
 unfold seE at hE
 rw [if_neg (by dsimp only; decide)] at hE
 refine jd2 ?_
 refine fnI fun w0 A => ?_
 refine jeO ?_
 refine zab (zat U168 sz9 qp qp (show _ = 3 from rfl)) rfl rfl ⟨rfl, trivial⟩ ?_
 refine G [3] ?_
 by_cases ht : t ≠ ⟨#[]⟩
 ·rw [if_pos (show seF ⟨3, t, n, a, b⟩ by simp [seF, isT, isN, isC, *])] at hE
  exact jca
 replace ht : t = ⟨#[]⟩ := qbk.1 ht
 by_cases hn : n ≠ 0
 ·rw [if_pos (show seF ⟨3, t, n, a, b⟩ by simp [seF, isT, isN, isC, *])] at hE
  exact jbv
 replace hn : n = 0 := qbk.1 hn
 by_cases hq : a = 0 ∧ b = 0
 ·refine G [5, 3, 7, 3, 9] ?_
  refine jdy ?_
  refine G [7] ?_
  rw [if_neg (show ¬ seF ⟨3, t, n, a, b⟩ by simp [seF, isT, isN, isC, *])] at hE
  rw [seV_3] at hE
  exact jcM
 ·rw [if_pos (show seF ⟨3, t, n, a, b⟩ by simp [seF, isT, isN, isC]; omega)] at hE
  exact jbG
theorem refCheck4_s (t : ByteArray) (n a b : Int) (ok : SE.OK ⟨4, t, n, a, b⟩) : Fn prog 86 [.agg (SE.cells ⟨4, t, n, a, b⟩)] (qd (seE ⟨4, t, n, a, b⟩)) [] := by
 obtain ⟨hz, hn0, hn1, ha0, ha1⟩ := ok
 dsimp only at hz hn0 hn1 ha0 ha1
 obtain ⟨E, hE⟩ : ∃ E, seE ⟨4, t, n, a, b⟩ = E := ⟨_, rfl⟩
 rw [hE]
 unfold seE at hE
 rw [if_neg (by dsimp only; decide)] at hE
 refine jd3 ?_
 have hH := zbP t
 refine fnI fun w0 A => ?_
 refine jeO ?_
 refine zab (zat U168 sz9 qp qp (show _ = 4 from rfl)) rfl rfl ⟨rfl, trivial⟩ ?_
 refine G [3] ?_
 by_cases ht : t ≠ ⟨#[]⟩
 ·by_cases hn : n ≠ 0
  ·rw [if_pos (show seF ⟨4, t, n, a, b⟩ by simp [seF, isT, isN, isC, *])] at hE
   exact jcq
  replace hn : n = 0 := qbk.1 hn
  by_cases hq : a = 0 ∧ b = 0
  ·refine G [5, 4, 2, 3, 4, 3, 9] ?_
   exact jb2
  ·rw [if_pos (show seF ⟨4, t, n, a, b⟩ by simp [seF, isT, isN, isC]; omega)] at hE
   exact jcQ
 replace ht : t = ⟨#[]⟩ := qbk.1 ht
 by_cases hn : n ≠ 0
 ·rw [if_pos (show seF ⟨4, t, n, a, b⟩ by simp [seF, isT, isN, isC, *])] at hE
  exact jbv
 replace hn : n = 0 := qbk.1 hn
 by_cases hq : a = 0 ∧ b = 0
 ·refine G [5, 3, 7, 3, 9] ?_
  exact jb2
 ·rw [if_pos (show seF ⟨4, t, n, a, b⟩ by simp [seF, isT, isN, isC]; omega)] at hE
  exact jbG
theorem refCheck5_s (t : ByteArray) (n a b : Int) (ok : SE.OK ⟨5, t, n, a, b⟩) : Fn prog 86 [.agg (SE.cells ⟨5, t, n, a, b⟩)] (qd (seE ⟨5, t, n, a, b⟩)) [] := by
 obtain ⟨hz, hn0, hn1, ha0, ha1⟩ := ok
 dsimp only at hz hn0 hn1 ha0 ha1
 obtain ⟨E, hE⟩ : ∃ E, seE ⟨5, t, n, a, b⟩ = E := ⟨_, rfl⟩
 rw [hE]
 unfold seE at hE
 rw [if_neg (by dsimp only; decide)] at hE
 refine jd4 ?_
 refine fnI fun w0 A => ?_
 refine jeO ?_
 refine zab (zat U168 sz9 qp qp (show _ = 5 from rfl)) rfl rfl ⟨rfl, trivial⟩ ?_
 refine G [3] ?_
 by_cases ht : t ≠ ⟨#[]⟩
 ·rw [if_pos (show seF ⟨5, t, n, a, b⟩ by simp [seF, isT, isN, isC, *])] at hE
  exact jca
 replace ht : t = ⟨#[]⟩ := qbk.1 ht
 by_cases hn : n ≠ 0
 ·rw [if_pos (show seF ⟨5, t, n, a, b⟩ by simp [seF, isT, isN, isC, *])] at hE
  exact jbv
 replace hn : n = 0 := qbk.1 hn
 by_cases hq : a = 0 ∧ b = 0
 ·refine G [5, 3, 7, 3, 9] ?_
  refine jdy ?_
  refine G [7] ?_
  rw [if_neg (show ¬ seF ⟨5, t, n, a, b⟩ by simp [seF, isT, isN, isC, *])] at hE
  rw [seV_5] at hE
  exact jcM
 ·rw [if_pos (show seF ⟨5, t, n, a, b⟩ by simp [seF, isT, isN, isC]; omega)] at hE
  exact jbG
theorem refCheck6_s (t : ByteArray) (n a b : Int) (ok : SE.OK ⟨6, t, n, a, b⟩) : Fn prog 86 [.agg (SE.cells ⟨6, t, n, a, b⟩)] (qd (seE ⟨6, t, n, a, b⟩)) [] := by
 obtain ⟨hz, hn0, hn1, ha0, ha1⟩ := ok
 dsimp only at hz hn0 hn1 ha0 ha1
 obtain ⟨E, hE⟩ : ∃ E, seE ⟨6, t, n, a, b⟩ = E := ⟨_, rfl⟩
 rw [hE]
 unfold seE at hE
 rw [if_neg (by dsimp only; decide)] at hE
 refine jd5 ?_
 have hH := zbP t
 have hZ := zge
 refine fnI fun w0 A => ?_
 refine jeO ?_
 refine zab (zat U168 sz9 qp qp (show _ = 6 from rfl)) rfl rfl ⟨rfl, trivial⟩ ?_
 refine G [3] ?_
 by_cases ht : t ≠ ⟨#[]⟩
 ·by_cases hn : n ≠ 0
  ·rw [if_pos (show seF ⟨6, t, n, a, b⟩ by simp [seF, isT, isN, isC, *])] at hE
   exact jcq
  replace hn : n = 0 := qbk.1 hn
  by_cases hq : a = 0 ∧ b = 0
  ·refine G [5, 4, 2, 3, 4, 3, 9] ?_
   exact jaI
  ·rw [if_pos (show seF ⟨6, t, n, a, b⟩ by simp [seF, isT, isN, isC]; omega)] at hE
   exact jcQ
 replace ht : t = ⟨#[]⟩ := qbk.1 ht
 by_cases hn : n ≠ 0
 ·rw [if_pos (show seF ⟨6, t, n, a, b⟩ by simp [seF, isT, isN, isC, *])] at hE
  exact jbv
 replace hn : n = 0 := qbk.1 hn
 by_cases hq : a = 0 ∧ b = 0
 ·refine G [5, 3, 7, 3, 9] ?_
  exact jaI
 ·rw [if_pos (show seF ⟨6, t, n, a, b⟩ by simp [seF, isT, isN, isC]; omega)] at hE
  exact jbG
theorem refCheck7_s (t : ByteArray) (n a b : Int) (ok : SE.OK ⟨7, t, n, a, b⟩) : Fn prog 86 [.agg (SE.cells ⟨7, t, n, a, b⟩)] (qd (seE ⟨7, t, n, a, b⟩)) [] := by
 obtain ⟨hz, hn0, hn1, ha0, ha1⟩ := ok
 dsimp only at hz hn0 hn1 ha0 ha1
 obtain ⟨E, hE⟩ : ∃ E, seE ⟨7, t, n, a, b⟩ = E := ⟨_, rfl⟩
 rw [hE]
 unfold seE at hE
 rw [if_neg (by dsimp only; decide)] at hE
 refine jd6 ?_
 have hEn := ziO t hz
 obtain ⟨ea, eb, hen⟩ := enR_e t
 rw [hen] at hEn
 refine fnI fun w0 A => ?_
 refine jeO ?_
 refine zab (zat U168 sz9 qp qp (show _ = 7 from rfl)) rfl rfl ⟨rfl, trivial⟩ ?_
 refine G [3] ?_
 by_cases ht : t ≠ ⟨#[]⟩
 ·by_cases hn : n ≠ 0
  ·rw [if_pos (show seF ⟨7, t, n, a, b⟩ by simp [seF, isT, isN, isC, *])] at hE
   exact jcq
  replace hn : n = 0 := qbk.1 hn
  by_cases hq : a = 0 ∧ b = 0
  ·refine G [5, 4, 2, 3, 4, 3, 9] ?_
   exact jbu
  ·rw [if_pos (show seF ⟨7, t, n, a, b⟩ by simp [seF, isT, isN, isC]; omega)] at hE
   exact jcQ
 replace ht : t = ⟨#[]⟩ := qbk.1 ht
 by_cases hn : n ≠ 0
 ·rw [if_pos (show seF ⟨7, t, n, a, b⟩ by simp [seF, isT, isN, isC, *])] at hE
  exact jbv
 replace hn : n = 0 := qbk.1 hn
 by_cases hq : a = 0 ∧ b = 0
 ·refine G [5, 3, 7, 3, 9] ?_
  exact jbu
 ·rw [if_pos (show seF ⟨7, t, n, a, b⟩ by simp [seF, isT, isN, isC]; omega)] at hE
  exact jbG
theorem refCheck8_s (t : ByteArray) (n a b : Int) (ok : SE.OK ⟨8, t, n, a, b⟩) : Fn prog 86 [.agg (SE.cells ⟨8, t, n, a, b⟩)] (qd (seE ⟨8, t, n, a, b⟩)) [] := by
 obtain ⟨hz, hn0, hn1, ha0, ha1⟩ := ok
 dsimp only at hz hn0 hn1 ha0 ha1
 obtain ⟨E, hE⟩ : ∃ E, seE ⟨8, t, n, a, b⟩ = E := ⟨_, rfl⟩
 rw [hE]
 unfold seE at hE
 rw [if_neg (by dsimp only; decide)] at hE
 refine jd7 ?_
 refine fnI fun w0 A => ?_
 refine jeO ?_
 refine zab (zat U168 sz9 qp qp (show _ = 8 from rfl)) rfl rfl ⟨rfl, trivial⟩ ?_
 refine G [3] ?_
 by_cases ht : t ≠ ⟨#[]⟩
 ·rw [if_pos (show seF ⟨8, t, n, a, b⟩ by simp [seF, isT, isN, isC, *])] at hE
  exact jca
 replace ht : t = ⟨#[]⟩ := qbk.1 ht
 by_cases hn : n ≠ 0
 ·by_cases hq : a = 0 ∧ b = 0
  ·refine G [5, 3, 7, 4, 2, 3, 6] ?_
   exact jbN
  ·rw [if_pos (show seF ⟨8, t, n, a, b⟩ by simp [seF, isT, isN, isC]; omega)] at hE
   subst hE
   refine G [5, 3, 7, 4, 2, 3, 6] ?_
   exact jay
 replace hn : n = 0 := qbk.1 hn
 by_cases hq : a = 0 ∧ b = 0
 ·refine G [5, 3, 7, 3, 9] ?_
  exact jbN
 ·rw [if_pos (show seF ⟨8, t, n, a, b⟩ by simp [seF, isT, isN, isC]; omega)] at hE
  exact jbG
theorem refCheck9_s (t : ByteArray) (n a b : Int) (ok : SE.OK ⟨9, t, n, a, b⟩) : Fn prog 86 [.agg (SE.cells ⟨9, t, n, a, b⟩)] (qd (seE ⟨9, t, n, a, b⟩)) [] := by
 obtain ⟨hz, hn0, hn1, ha0, ha1⟩ := ok
 dsimp only at hz hn0 hn1 ha0 ha1
 obtain ⟨E, hE⟩ : ∃ E, seE ⟨9, t, n, a, b⟩ = E := ⟨_, rfl⟩
 rw [hE]
 unfold seE at hE
 rw [if_neg (by dsimp only; decide)] at hE
 refine jd8 ?_
 refine fnI fun w0 A => ?_
 refine jeO ?_
 refine zab (zat U168 sz9 qp qp (show _ = 9 from rfl)) rfl rfl ⟨rfl, trivial⟩ ?_
 refine G [3] ?_
 by_cases ht : t ≠ ⟨#[]⟩
 ·rw [if_pos (show seF ⟨9, t, n, a, b⟩ by simp [seF, isT, isN, isC, *])] at hE
  exact jca
 replace ht : t = ⟨#[]⟩ := qbk.1 ht
 by_cases hn : n ≠ 0
 ·rw [if_pos (show seF ⟨9, t, n, a, b⟩ by simp [seF, isT, isN, isC, *])] at hE
  exact jbv
 replace hn : n = 0 := qbk.1 hn
 by_cases hq : a = 0 ∧ b = 0
 ·refine G [5, 3, 7, 3, 9] ?_
  refine jdy ?_
  refine G [7] ?_
  rw [if_neg (show ¬ seF ⟨9, t, n, a, b⟩ by simp [seF, isT, isN, isC, *])] at hE
  rw [seV_9] at hE
  exact jcM
 ·rw [if_pos (show seF ⟨9, t, n, a, b⟩ by simp [seF, isT, isN, isC]; omega)] at hE
  exact jbG
theorem refCheck10_s (t : ByteArray) (n a b : Int) (ok : SE.OK ⟨10, t, n, a, b⟩) : Fn prog 86 [.agg (SE.cells ⟨10, t, n, a, b⟩)] (qd (seE ⟨10, t, n, a, b⟩)) [] := by
 obtain ⟨hz, hn0, hn1, ha0, ha1⟩ := ok
 dsimp only at hz hn0 hn1 ha0 ha1
 obtain ⟨E, hE⟩ : ∃ E, seE ⟨10, t, n, a, b⟩ = E := ⟨_, rfl⟩
 rw [hE]
 unfold seE at hE
 rw [if_neg (by dsimp only; decide)] at hE
 refine jdZ ?_
 have hC := zcH a b ha0 ha1
 change Fn prog _ [.agg [qe a, qd b]] _ _ at hC
 refine fnI fun w0 A => ?_
 refine jeO ?_
 refine zab (zat U168 sz9 qp qp (show _ = 10 from rfl)) rfl rfl ⟨rfl, trivial⟩ ?_
 refine G [3] ?_
 by_cases ht : t ≠ ⟨#[]⟩
 ·rw [if_pos (show seF ⟨10, t, n, a, b⟩ by simp [seF, isT, isN, isC, *])] at hE
  exact jca
 replace ht : t = ⟨#[]⟩ := qbk.1 ht
 by_cases hn : n ≠ 0
 ·rw [if_pos (show seF ⟨10, t, n, a, b⟩ by simp [seF, isT, isN, isC, *])] at hE
  exact jbv
 replace hn : n = 0 := qbk.1 hn
 by_cases hq : a = 0 ∧ b = 0
 ·refine G [5, 3, 7, 3, 9] ?_
  refine jdy ?_
  refine G [7] ?_
  exact jcm
 ·refine G [5, 3, 7, 3, 9] ?_
  refine zaa (zak U82 rfl rfl qr qr qr (c := true) (by rw [zbf]; simp; omega)) rfl rfl ?_
  refine G [2, 3, 4] ?_
  exact jcm
theorem refCheckBad_s (s : SE) (hk : s.k < 1 ∨ 10 < s.k) : Fn prog 86 [.agg s.cells] (qd (seE s)) [] := by
 exact jbo
theorem zaT (s : SE) (ok : s.OK) : Fn prog 86 [.agg s.cells] (qd (seE s)) [] := by
 by_cases hk : s.k < 1 ∨ 10 < s.k
 ·exact refCheckBad_s s hk
 obtain ⟨k, t, n, a, b⟩ := s
 dsimp only at hk
 have : k = 1 ∨ k = 2 ∨ k = 3 ∨ k = 4 ∨ k = 5 ∨ k = 6 ∨ k = 7 ∨ k = 8 ∨ k = 9 ∨ k = 10 := qp
 rcases this with rfl | rfl | rfl | rfl | rfl | rfl | rfl | rfl | rfl | rfl
 ·exact refCheck1_s t n a b ok
 ·exact refCheck2_s t n a b ok
 ·exact refCheck3_s t n a b ok
 ·exact refCheck4_s t n a b ok
 ·exact refCheck5_s t n a b ok
 ·exact refCheck6_s t n a b ok
 ·exact refCheck7_s t n a b ok
 ·exact refCheck8_s t n a b ok
 ·exact refCheck9_s t n a b ok
 ·exact refCheck10_s t n a b ok
structure SG where
 lv : Bool
 rest : List SE
 c : CF
 at_ : ByteArray
 err : Int
def sgC (lv : Bool) (n : Nat) (R : List PV) (key : ByteArray) (port : Int) (m : Nat) (L : List PV) (at_ : ByteArray) (err : Int) : List AV :=
 [qf lv, ql n 5 R, qc key, qd port, ql m 5 L, qc at_, qd err]
def SG.cells (s : SG) : List AV := sgC s.lv s.rest.length (s.rest.flatMap SE.pv) s.c.key s.c.port s.c.ps.length (s.c.ps.flatMap PE.pv) s.at_ s.err
def SG.pv (s : SG) : List PV := [.v (.bool s.lv), .sl s.rest.length 5 (s.rest.flatMap SE.pv)] ++ s.c.pv ++ [qg s.at_, qh s.err]
structure SG.OK (s : SG) : Prop where
 rest : ∀ x ∈ s.rest, x.OK
 len : s.rest.length ≤ 1048576
 c : s.c.OK
 az : s.at_.size ≤ 1048576
 kz : s.c.key.size ≤ 1048576
theorem SG.of_ty {n : Nat} {ps : List PV} (h : Ty prog (n + 8) 30 ps) (hb : PV.bdL 1048576 ps) : ∃ s : SG, s.OK ∧ ps = s.pv := by
 obtain ⟨_, rfl, x0, _, rfl, t0, x1, _, rfl, t1, x2, _, rfl, t2, x3, _, rfl, t3, x4, _, rfl, t4, rfl⟩ := zbi (ts := [4, 27, 24, 9, 28]) qr h
 obtain ⟨a0, rfl⟩ := zhf U4 t0
 obtain ⟨l, okl, hl, rfl⟩ := SE.list_ty t1 (zbs hb x1 qC)
 have hb2 := zbs hb x2 qC
 have hb3 := zbs hb x3 qC
 obtain ⟨c, okc, rfl⟩ := CF.of_ty t2 hb2
 obtain ⟨a3, rfl, _⟩ := zbD U9 t3
 obtain ⟨a4, rfl, _⟩ := zbz underlying28 t4
 simp only [CF.pv, PV.bdL, PV.bd] at hb2 hb3
 exact ⟨⟨a0, l, c, a3, a4⟩, ⟨okl, hl, okc, hb3.1, hb2.1⟩, by simp [SG.pv]⟩
def seG (l : List SE) (i : Nat) : SE := l.getD i ⟨0, ⟨#[]⟩, 0, 0, 0⟩
theorem seG_at {l : List SE} {i : Nat} {p : SE} (h : l[i]? = some p) : seG l i = p := by unfold seG; rw [List.getD_eq_getElem?_getD, h]; rfl
def restE (l : List SE) : Int := fnz (fun i => seE (seG l i)) l.length
def sgE (s : SG) : Int :=
 if s.lv = false then (if 0 < s.rest.length ∨ s.at_ ≠ ⟨#[]⟩ ∨ s.err ≠ 0 ∨ s.c.key ≠ ⟨#[]⟩ ∨ s.c.port ≠ 0 ∨ 0 < s.c.ps.length then 14 else 0)
 else if cfE s.c ≠ 0 then cfE s.c else if 60 < s.rest.length then 1 else if restE s.rest ≠ 0 then restE s.rest
 else if (s.at_ ≠ ⟨#[]⟩ ∧ keyE s.at_ ≠ 0) ∨ s.err < 0 ∨ 14 < s.err then 4 else 0
theorem sgCheck_s (s : SG) (ok : s.OK) : Fn prog 35 [.agg s.cells] (qd (sgE s)) [] := by
 obtain ⟨lv, rest, c, at_, err⟩ := s
 obtain ⟨okr, hl, okc, haz, hkz⟩ := ok
 dsimp only at okr hl okc haz hkz
 obtain ⟨E, hE⟩ : ∃ E, sgE ⟨lv, rest, c, at_, err⟩ = E := ⟨_, rfl⟩
 rw [hE]
 unfold sgE at hE
 dsimp only at hE
 have hCf := zbu c okc
 have hK := zb2 at_
 have hrE : restE rest = fnz (fun i => seE (seG rest i)) rest.length := rfl
 have hpl := okc.len
 generalize cfE c = ce at *
 generalize keyE at_ = k1 at *
 obtain ⟨key, port, ps⟩ := c
 dsimp only at hE hpl hkz
 change Fn prog _ [.agg [qc key, qd port, ql ps.length 5 (ps.flatMap PE.pv)]] _ _ at hCf
 show Fn prog _ [.agg (sgC lv rest.length (rest.flatMap SE.pv) key port ps.length (ps.flatMap PE.pv) at_ err)] _ _
 clear okc
 generalize ps.flatMap PE.pv = L at *
 generalize ps.length = M at *
 refine fnI fun w0 A => ?_
 refine G [12, 9, 0] ?_
 refine cX ?_ ?_ <;> intro h
 ·have h0 : lv = false := qz
  clear h
  rw [if_pos h0] at hE
  refine G [11, 2, 4, 2, 5, 2, 5, 2, 4] ?_
  refine mb2 _ rfl rfl (fun hb => (zeg U22)) (fun _ => trivial) ?_
  refine G [1, 2, 1, 9, 0] ?_
  refine cX ?_ ?_ <;> intro h
  ·have h1 : 0 < rest.length ∨ at_ ≠ ⟨#[]⟩ ∨ err ≠ 0 ∨ key ≠ ⟨#[]⟩ ∨ port ≠ 0 ∨ 0 < M := by
    simp at h
    simp only [or_assoc] at h
    exact h
   exact jcX
  ·have h1 : ¬ (0 < rest.length ∨ at_ ≠ ⟨#[]⟩ ∨ err ≠ 0 ∨ key ≠ ⟨#[]⟩ ∨ port ≠ 0 ∨ 0 < M) := by
    simp at h
    simp only [not_or]
    simp only [and_assoc] at h
    obtain ⟨q1, q2, q3, q4, q5, q6⟩ := h
    refine ⟨by simp [q1], by simpa using q2, by simpa using q3, by simpa using q4, by simpa using q5, qp⟩
   rw [if_neg h1] at hE
   subst hE
   exact jaH
 have h0 : ¬ lv = false := qz
 clear h
 rw [if_neg h0] at hE
 refine G [6] ?_
 refine cK hCf ?_
 refine jdv ?_
 refine cX ?_ ?_ <;> intro h
 ·have h1 : ce ≠ 0 := qz
  exact jbV
 have h1 : ce = 0 := qz
 clear h
 rw [if_neg (by simp [h1])] at hE
 refine G [9, 9, 0] ?_
 refine cX ?_ ?_ <;> intro h
 ·have h2 : 60 < rest.length := qu
  rw [if_pos h2] at hE
  subst hE
  exact ja4
 have h2 : ¬ 60 < rest.length := qu
 clear h
 rw [if_neg h2] at hE
 refine G [10] ?_
 refine zac (fun m st => ∃ i : Nat, m + i = rest.length ∧ (∀ j, j < i → seE (seG rest j) = 0) ∧ st = St.of [(1, .ref 1 0), (54, ql rest.length 5 (rest.flatMap SE.pv)), (55, qd rest.length), (56, qd i)] [(1, .box 30 (sgC lv rest.length (rest.flatMap SE.pv) key port M L at_ err))]) rest.length ?_ ?_
 ·exact jaA
 rintro m st ⟨i, hi, hf, rfl⟩
 refine G [5] ?_
 refine cX ?_ ?_ <;> intro h
 ·have hlt : i < rest.length := qu
  clear h
  obtain ⟨x, hx⟩ := qo hlt
  have hch := zaj (f := SE.pv) (k := 5) (fun _ => rfl) hx
  have hle := zai (f := SE.pv) (k := 5) (fun _ => rfl) hlt
  have hC := zeB x (okr x (qbh hx))
  exact jaM
 have hge : i = rest.length := qu
 clear h
 subst hge
 rw [hrE, zcP hf, if_neg (by simp)] at hE
 clear hf hrE
 refine G [10] ?_
 refine mb2 _ rfl rfl (fun _ => zbc func66 rfl rfl (hK) qw rfl) (fun _ => trivial) ?_
 exact jbe
def rootRes : Option (TR × List ND) → TR
 | none => .nil
 | some (t, _) => t
theorem tree_s (l : List ND) (hok : ∀ x ∈ l, x.OK) (hz : l.length ≤ 4611686018427387904) : Fn prog 77 [.p (ndsV l)] (.p (trP (rootRes (zds l.length l)))) [] := by
 have hg := grow_s l.length l (Nat.le_refl _) hok hz
 cases hq : zds l.length l with
 | none =>
  rw [hq] at hg
  replace hg : Fn prog 108 [.p (ndsV l)] (.tup [.p (.v (.pointer none)), qm, qf false]) [] := hg
  refine fnI fun w0 A => ?_
  refine G [7] ?_
  refine cK hg ?_
  refine G [14, 9, 0] ?_
  exact yE
 | some r =>
  obtain ⟨t, rest⟩ := r
  rw [hq] at hg
  replace hg : Fn prog 108 [.p (ndsV l)] (.tup [.p (trP t), .p (ndsV rest), qf true]) [] := hg
  refine fnI fun w0 A => ?_
  refine G [7] ?_
  refine cK hg ?_
  refine G [14, 9, 0] ?_
  exact yE
def zez : List ND → Int
 | [] => 0
 | x :: l => if x.fault ≠ 0 then x.fault else zez l
def endsB : Option (TR × List ND) → Bool
 | some (_, []) => true
 | _ => false
def zgV (l : List ND) : Int := if zez l ≠ 0 then zez l else if l = [] then 0 else if endsB (zds l.length l) = true then 0 else 14
theorem faultL_at : ∀ {l : List ND} {i : Nat} {x : ND}, l[i]? = some x → (∀ j, j < i → ∀ y, l[j]? = some y → y.fault = 0) → x.fault ≠ 0 → zez l = x.fault
 | [], i, x, h, _, _ => by simp at h
 | y :: l, 0, x, h, _, hx => by simp at h; subst h; rw [zez, if_pos hx]
 | y :: l, i + 1, x, h, hj, hx => by
  have h0 := hj 0 qp y qC
  rw [zez, if_neg (by simp [h0])]
  exact faultL_at (i := i) qz (fun j hj' z hz => hj (j + 1) qp z (by simpa using hz)) hx
theorem zfk : ∀ {l : List ND}, zez l = 0 ↔ ∀ x ∈ l, x.fault = 0
 | [] => by simp [zez]
 | y :: l => by
  rw [zez]
  by_cases h : y.fault = 0
  ·rw [if_neg (by simp [h]), zfk]; simp [h]
  ·rw [if_pos h]; simp [h]
theorem nds_at (l : List ND) (i : Nat) (x : ND) (h : l[i]? = some x) : ((nds l).drop (i * 4)).take 4 = x.pv := by
 rw [ziW]
 obtain ⟨hi, rfl⟩ := qbl.1 h
 rw [qbY hi, zdu]; rfl
theorem tcheck_s (l : List ND) (hok : ∀ x ∈ l, x.OK) (hz : l.length ≤ 4611686018427387904) : Fn prog 74 [.p (ndsV l)] (qd (zgV l)) [] := by
 refine fnI fun w0 A => ?_
 refine G [12] ?_
 refine zac (fun m st => ∃ i : Nat, m + i = l.length ∧ (∀ j, j < i → ∀ y, l[j]? = some y → y.fault = 0) ∧ st = St.of [(0, .p (ndsV l)), (9, .p (ndsV l)), (10, qd l.length), (11, qd i)] []) l.length ?_ ?_
 ·refine ⟨_, re_of0 _ ?_, 0, qp, qp, rfl⟩
  ·exact ⟨⟨rfl, rfl⟩, ⟨rfl, rfl⟩, ⟨rfl, rfl⟩, ⟨rfl, rfl⟩, trivial⟩
 rintro m st ⟨i, hi, hj, rfl⟩
 refine G [5] ?_
 refine cX ?_ ?_ <;> intro h
 ·have hlt : i < l.length := qu
  clear h
  obtain ⟨x, hx⟩ := qo hlt
  have hxo := hok x (qbh hx)
  have hld := nds_at l i x hx
  have hln := zev l
  have hC := zcp x.a x.n hxo.a0 hxo.a1
  have hxf : zan x.a x.n = x.fault := rfl
  rw [hxf] at hC
  obtain ⟨F, hF⟩ : ∃ F, F = x.fault := ⟨_, rfl⟩
  rw [← hF] at hC
  refine G [6] ?_
  refine zaa (zas U84 rfl sz84 (by rw [qby, hln]; first | omega | (simp only [qbx]; omega)) ((show _ = x.pv from hld))) rfl rfl ?_
  refine G [7] ?_
  refine cV hC ?_
  refine jdv ?_
  refine cX ?_ ?_ <;> intro h
  ·have hne : x.fault ≠ 0 := by rw [← hF]; simpa using h
   have hE : zgV l = F := by
    unfold zgV
    have := faultL_at hx hj hne
    rw [this, if_pos hne, hF]
   rw [hE]
   exact jaH
  ·have he : x.fault = 0 := by rw [← hF]; simpa using h
   refine jdD ?_
   refine ⟨m - 1, qp, _, re_of0 _ ?_, i + 1, qp, ?_, rfl⟩
   ·exact ⟨⟨rfl, rfl⟩, ⟨rfl, rfl⟩, ⟨rfl, rfl⟩, ⟨rfl, rfl⟩, trivial⟩
   ·intro j hj' y hy
    by_cases hji : j = i
    ·subst hji; rw [hx] at hy; cases hy; exact he
    ·exact hj j qp y hy
 have hge : i = l.length := qu
 clear h
 subst hge
 have h0 : zez l = 0 := zfk.2 fun x hx => by
  obtain ⟨j, hj1, rfl⟩ := qb5.1 hx
  exact hj j hj1 _ (List.getElem?_eq_getElem hj1)
 unfold zgV
 rw [if_neg (by simp [h0])]
 refine jdQ ?_
 refine cX ?_ ?_ <;> intro h
 ·have hl : l = [] := qbt qz
  rw [if_pos hl]
  exact ja4
 have hl : l ≠ [] := by rintro rfl; simp at h
 rw [if_neg hl]
 have hg := grow_s l.length l (Nat.le_refl _) hok hz
 cases hq : zds l.length l with
 | none =>
  rw [hq] at hg
  replace hg : Fn prog 108 [.p (ndsV l)] (.tup [.p (.v (.pointer none)), qm, qf false]) [] := hg
  rw [show endsB none = false from rfl, if_neg (by simp)]
  refine G [5] ?_
  refine cK hg ?_
  refine G [18, 9, 0] ?_
  refine cX ?_ ?_ <;> intro h
  ·exact ja4
  ·cases h
 | some r =>
  obtain ⟨t, rest⟩ := r
  rw [hq] at hg
  replace hg : Fn prog 108 [.p (ndsV l)] (.tup [.p (trP t), .p (ndsV rest), qf true]) [] := hg
  refine G [5] ?_
  refine cK hg ?_
  refine G [18, 9, 0] ?_
  refine cX ?_ ?_ <;> intro h
  ·have : endsB (some (t, rest)) = false := by
    cases rest with
    | nil => simp at h
    | cons => rfl
   rw [this, if_neg (by simp)]
   exact ja4
  ·have : endsB (some (t, rest)) = true := by
    cases rest with
    | nil => rfl
    | cons => simp at h
   rw [this, if_pos rfl]
   exact jaH
theorem list_s : ∀ (t : TR), t.list.length * 40 ≤ 140737488355328 → Fn prog 78 [.p (trP t)] (.row 0) [(0, .row 84 4 t.list.length (nds t.list))]
 | .nil, hz => by
  show Fn prog 78 [.p (.v (.pointer none))] (.row 0) [(0, .row 84 4 0 [])]
  refine fnI fun w0 A => ?_
  refine G [8] ?_
  refine jfb (a_peqNN U121) ?_
  refine zaf (zaH (cX (fun h => ?_) fun h => ?_))
  ·refine G [4, 9, 0] ?_
   refine zaK (zbF 2 100 84 4 rfl rfl) ?_
   refine zaA (zbA (yT (fun _ => 100) ?_ ?_))
   ·exact rfl
   ·exact ⟨⟨rfl, rfl⟩, trivial⟩
  ·cases h
 | .nd p o l r, hz => by
  rw [TR.list_nd] at hz ⊢
  simp only [qbs, qbg] at hz
  have hl := list_s l qp
  have hr := list_s r qp
  show Fn prog 78 [.p (.pt [qi (zav p), qh p.length, qg o, trP l, trP r])] (.row 0) _
  rw [zdu, zhx]
  simp only [qbs, qbg]
  generalize nds l.list = cl at *
  generalize nds r.list = cr at *
  generalize l.list.length = nl at *
  generalize r.list.length = nr at *
  have hk1 : 1 + nl = nl + 1 := qp
  have hk2 : nl + 1 + nr = nl + nr + 1 := qp
  have hst : setR (([qi (zav p), qh p.length, qg o, qh 0] ++ cl) ++ cr) 3 [qh ((nl + nr + 1 : Nat) : Int)] = qi (zav p) :: qh p.length :: qg o :: qh ((nl + nr + 1 : Nat) : Int) :: (cl ++ cr) := by simp [setR]
  refine fnI fun w0 A => ?_
  refine G [8] ?_
  refine jfb (a_peqPN U121) ?_
  refine zaf (zaH (cX (fun h => ?_) fun h => ?_))
  ·cases h
  refine G [4] ?_
  refine jfb zbq ?_
  refine jfb (zam zcs rfl) ?_
  refine zaa (zas U82 rfl sz82 qG (rfl)) rfl rfl ?_
  refine mP rfl rfl ?_
  refine jfb zbq ?_
  refine jfb (zam fi164_1 rfl) ?_
  refine zaa (zaG U9 rfl qy) rfl rfl ?_
  refine jfb (zbT pl84 zr84 rfl rfl) ?_
  refine jfc (zag 15 U25 sz84 zc84 (qbe rfl) (qbe rfl) rfl rfl rfl rfl (qbe rfl)) ?_
  refine G [3] ?_
  refine zf1 8 qr ?_
  refine G [2] ?_
  refine jfb zbq ?_
  refine jfb (zam zdk rfl) ?_
  refine zaa (zcZ U162 zdq qp qp rfl) rfl rfl ?_
  refine zaa (zaG U121 rfl qy) rfl rfl ?_
  refine cK hl ?_
  refine zab (zaq 23 U25 eo84 (zaS) qB qp hk1 rfl) rfl rfl ⟨rfl, rfl, rfl, trivial⟩ ?_
  refine mP rfl rfl ?_
  refine jfb zbq ?_
  refine jfb (zam zdk rfl) ?_
  refine zaa (zcZ U162 zdq qp qp rfl) rfl rfl ?_
  refine zaa (zaG U121 rfl qy) rfl rfl ?_
  refine cK hr ?_
  refine zab (zaq 30 U25 eo84 (zaS) qB qp hk2 rfl) rfl rfl ⟨rfl, rfl, rfl, trivial⟩ ?_
  refine G [9] ?_
  refine zab (zb3 (Y := .p _) sz3 rfl rfl (by first | rfl | omega) qG hst) rfl rfl ⟨rfl, trivial⟩ ?_
  refine G [7, 9, 0] ?_
  refine yT (fun _ => 30) ?_ ?_
  ·exact rfl
  ·exact ⟨⟨rfl, rfl⟩, trivial⟩
theorem cloneN_s (n : Nat) (cs : List PV) (hx : cs.length = n * 4) (hn : n * 40 ≤ 140737488355328) : Fn prog 44 [ql n 4 cs] (.row 0) [(0, .row 84 4 n cs)] := by
 refine fnI fun w0 A => ?_
 refine G [4] ?_
 by_cases h0 : n = 0
 ·subst h0
  obtain rfl : cs = [] := qbt qp
  refine G [4] ?_
  refine jfb (a_seqX U25) ?_
  refine je1 ?_
  refine zf2 rfl ?_ ?_
  ·refine G [4, 9, 0] ?_
   refine zaK (zbF 2 100 84 4 rfl rfl) ?_
   refine zaA (zbA ?_)
   exact jaO
  ·refine G [3] ?_
   refine jfc (za5 5 U25 sz84) ?_
   refine jdJ ?_
   refine zab (zaq 7 U25 eo84 (zcF) qB qp rfl rfl) rfl rfl ⟨rfl, rfl, trivial⟩ ?_
   exact jbr
 ·refine G [4] ?_
  refine zaa (a_seqS U25 qp) rfl rfl ?_
  refine je1 ?_
  refine cX ?_ ?_ <;> intro h
  ·cases h
  ·refine G [3] ?_
   refine jfc (za5 5 U25 sz84) ?_
   refine jdJ ?_
   refine zab (zaq 7 U25 eo84 (zcF) qB qp (show _ = n by omega) rfl) rfl rfl ⟨rfl, rfl, trivial⟩ ?_
   refine jdR ?_
   refine yT (fun _ => 7) ?_ ?_
   ·exact rfl
   ·exact ja3
def keyA (p : Key) : List AV := netA (zav p) p.length
theorem keyEq {p q : Key} (hp : p.length ≤ 32) : eqL [.int .u32 (zav p), .int .i64 p.length] [.int .u32 (zav q), .int .i64 q.length] = decide (p = q) := by
 rw [qbX, zaN, decide_eq_true_eq]
 constructor
 ·intro h
  simp only [List.cons.injEq, Value.int.injEq, true_and, and_true] at h
  exact zh2 hp qp h.1
 ·intro h; rw [h]
theorem kJoin_s (p q : Key) (hp : p.length ≤ 32) (hq : q.length ≤ 32) : Fn prog 112 [.agg (keyA p), .agg (keyA q)] (.tup [.agg (keyA (lcpL p q)), qd 0]) [] := by
 have h := nJoin_s (zav p) p.length (zav q) q.length (zbR p hp) (zbR q hq) (zbl p hp).1 (zbl p hp).2 (zbl q hq).1 (zbl q hq).2
 exact jcS
theorem put_s : ∀ (t : TR) (n : Key) (o : ByteArray), t.short → n.length ≤ 32 → Fn prog 76 [.p (trP t), .agg (keyA n), qc o] (.p (trP (t.put n o))) []
 | .nil, n, o, hs, hn => by
  rw [TR.put]
  show Fn prog 76 [.p (.v (.pointer none)), .agg (netA (zav n) n.length), qc o] _ []
  refine fnI fun w0 A => ?_
  refine G [18] ?_
  refine jfb (a_peqNN U121) ?_
  refine G [2, 9, 0] ?_
  refine cX ?_ ?_ <;> intro h
  ·refine zaX (zeo (cs := [qi (zav n), qh n.length, qg o, .v (.pointer none), .v (.pointer none)]) 15 rfl rfl) ?_
   refine G [6, 9, 0] ?_
   exact yE
  ·cases h
 | .nd p q l r, n, o, hs, hn => by
  obtain ⟨hp, hsl, hsr⟩ := hs
  have hH := zi3 p n hp hn
  have hH2 := zi3 n p hn hp
  have hEq := keyEq (q := n) hp
  rw [TR.put]
  show Fn prog 76 [.p (.pt [qi (zav p), qh p.length, qg q, trP l, trP r]), .agg (netA (zav n) n.length), qc o] _ []
  refine fnI fun w0 A => ?_
  refine G [18] ?_
  refine jfb (a_peqPN U121) ?_
  refine G [2, 9, 0] ?_
  refine cX ?_ ?_ <;> intro h
  ·cases h
  refine G [3] ?_
  refine jfb zbq ?_
  refine jfb (zam zcs rfl) ?_
  refine zaa (zas U82 rfl sz82 qG (rfl)) rfl rfl ?_
  refine lN U82 rfl sz82 rfl rfl ⟨rfl, trivial⟩ ?_
  refine zaa (zfm U82 rfl rfl qr qr qr) rfl rfl ?_
  refine G [2, 9, 0] ?_
  refine cX ?_ ?_ <;> intro h
  ·have he : p = n := by
    have h' := h
    rw [hEq] at h'
    simpa using h'
   rw [if_pos he]
   refine G [5] ?_
   refine jfb zbq ?_
   refine jfb (zam zdk rfl) ?_
   refine zaa (zas U162 rfl sz162 qG (rfl)) rfl rfl ?_
   refine G [4, 9, 0] ?_
   refine zaX (zeo (cs := [qi (zav n), qh n.length, qg o, trP l, trP r]) 34 rfl rfl) ?_
   refine zaA (zcl (zbA ?_))
   exact yE
  have hne : p ≠ n := by
   have h' := h
   rw [hEq] at h'
   simpa using h'
  clear h
  rw [if_neg hne]
  refine G [3] ?_
  refine jfb zbq ?_
  refine jfb (zam zcs rfl) ?_
  refine zaa (zas U82 rfl sz82 qG (rfl)) rfl rfl ?_
  refine lN U82 rfl sz82 rfl rfl ⟨rfl, trivial⟩ ?_
  refine cV hH ?_
  refine G [2, 9, 0] ?_
  refine cX ?_ ?_ <;> intro h
  ·have hpn : p <+: n := qz
   clear h
   rw [if_pos hpn]
   have hx := zcD hpn (fun e => hne e.symm)
   have hlt : p.length < n.length := by have := hx.length_le; simp at this; omega
   have hS := side_s p n hlt hn
   cases hb : zbN n p.length with
   | true =>
    have hP := put_s r n o hsr hn
    rw [show bitN n p.length = 1 by unfold bitN; rw [hb]; rfl] at hS
    rw [if_pos rfl]
    refine G [3] ?_
    refine jfb zbq ?_
    refine zaa (zas underlying164 rfl sz164 qG (rfl)) rfl rfl ?_
    refine G [6] ?_
    refine jfb zbq ?_
    refine jfb (zam zcs rfl) ?_
    refine zaa (zas U82 rfl sz82 qG (rfl)) rfl rfl ?_
    refine lN U82 rfl sz82 rfl rfl ⟨rfl, trivial⟩ ?_
    refine cV hS ?_
    refine G [7] ?_
    refine jfb zbq ?_
    refine jfb (zam zdk rfl) ?_
    refine zaa (zcZ U162 zdq qp qp rfl) rfl rfl ?_
    refine zaa (zaG U121 rfl qy) rfl rfl ?_
    refine G [2] ?_
    refine cK hP ?_
    refine fA zdk rfl rfl ?_
    refine zaa (zaQ U162 zdq qp qp qD) rfl rfl ?_
    refine G [6, 9, 0] ?_
    refine zaX (zeo (cs := [qi (zav p), qh p.length, qg q, trP l, trP (r.put n o)]) 8 rfl rfl) ?_
    refine zaA (zcl (zbA ?_))
    exact yE
   | false =>
    have hP := put_s l n o hsl hn
    rw [show bitN n p.length = 0 by unfold bitN; rw [hb]; rfl] at hS
    rw [if_neg (by simp)]
    refine G [3] ?_
    refine jfb zbq ?_
    refine zaa (zas underlying164 rfl sz164 qG (rfl)) rfl rfl ?_
    refine G [6] ?_
    refine jfb zbq ?_
    refine jfb (zam zcs rfl) ?_
    refine zaa (zas U82 rfl sz82 qG (rfl)) rfl rfl ?_
    refine lN U82 rfl sz82 rfl rfl ⟨rfl, trivial⟩ ?_
    refine cV hS ?_
    refine G [7] ?_
    refine jfb zbq ?_
    refine jfb (zam zdk rfl) ?_
    refine zaa (zcZ U162 zdq qp qp rfl) rfl rfl ?_
    refine zaa (zaG U121 rfl qy) rfl rfl ?_
    refine G [2] ?_
    refine cK hP ?_
    refine fA zdk rfl rfl ?_
    refine zaa (zaQ U162 zdq qp qp qD) rfl rfl ?_
    refine G [6, 9, 0] ?_
    refine zaX (zeo (cs := [qi (zav p), qh p.length, qg q, trP (l.put n o), trP r]) 8 rfl rfl) ?_
    refine zaA (zcl (zbA ?_))
    exact yE
  have hpn : ¬ p <+: n := qz
  clear h
  rw [if_neg hpn]
  refine G [4] ?_
  refine jfb zbq ?_
  refine jfb (zam zcs rfl) ?_
  refine zaa (zas U82 rfl sz82 qG (rfl)) rfl rfl ?_
  refine cV hH2 ?_
  refine G [2, 9, 0] ?_
  refine cX ?_ ?_ <;> intro h
  ·have hnp : n <+: p := qz
   clear h
   rw [if_pos hnp]
   have hx := zcD hnp (fun e => hne e)
   have hlt : n.length < p.length := by have := hx.length_le; simp at this; omega
   have hS := side_s n p hlt hp
   cases hb : zbN p n.length with
   | true =>
    rw [show bitN p n.length = 1 by unfold bitN; rw [hb]; rfl] at hS
    rw [if_pos rfl]
    refine G [5] ?_
    refine jfb zbq ?_
    refine jfb (zam zcs rfl) ?_
    refine zaa (zas U82 rfl sz82 qG (rfl)) rfl rfl ?_
    refine cV hS ?_
    refine G [3] ?_
    refine zaa (zaQ U162 zdq qp qp qD) rfl rfl ?_
    refine G [7, 9, 0] ?_
    refine zaX (zeo (cs := [qi (zav n), qh n.length, qg o, .v (.pointer none), .pt [qi (zav p), qh p.length, qg q, trP l, trP r]]) 15 rfl rfl) ?_
    refine zaA (zcl (zbA ?_))
    exact yE
   | false =>
    rw [show bitN p n.length = 0 by unfold bitN; rw [hb]; rfl] at hS
    rw [if_neg (by simp)]
    refine G [5] ?_
    refine jfb zbq ?_
    refine jfb (zam zcs rfl) ?_
    refine zaa (zas U82 rfl sz82 qG (rfl)) rfl rfl ?_
    refine cV hS ?_
    refine G [3] ?_
    refine zaa (zaQ U162 zdq qp qp qD) rfl rfl ?_
    refine G [7, 9, 0] ?_
    refine zaX (zeo (cs := [qi (zav n), qh n.length, qg o, .pt [qi (zav p), qh p.length, qg q, trP l, trP r], .v (.pointer none)]) 15 rfl rfl) ?_
    refine zaA (zcl (zbA ?_))
    exact yE
  have hnp : ¬ n <+: p := qz
  clear h
  rw [if_neg hnp]
  have hJ := kJoin_s p n hp hn
  have f2 := (fork_bits hpn hnp).2.1
  have hlt : (lcpL p n).length < n.length := by have := f2.length_le; simp at this; omega
  have hS := side_s (lcpL p n) n hlt hn
  generalize hj : lcpL p n = j at *
  cases hb : zbN n j.length with
  | true =>
   rw [show bitN n j.length = 1 by unfold bitN; rw [hb]; rfl] at hS
   rw [if_pos rfl]
   refine G [11] ?_
   refine jfb zbq ?_
   refine jfb (zam zcs rfl) ?_
   refine zaa (zas U82 rfl sz82 qG (rfl)) rfl rfl ?_
   refine lN U82 rfl sz82 rfl rfl ⟨rfl, trivial⟩ ?_
   refine cV hJ ?_
   refine G [14] ?_
   refine cV hS ?_
   refine G [13] ?_
   refine zaa (zaQ U162 zdq qp qp qD) rfl rfl ?_
   refine zab (zcM (Y := .ref _ _) zdq rfl qI qv qM) rfl rfl ⟨rfl, trivial⟩ ?_
   refine G [2] ?_
   refine zaa (zaQ U162 zdq qp qp qD) rfl rfl ?_
   refine G [2, 9, 0] ?_
   refine zaX (zeo (cs := [qi (zav n), qh n.length, qg o, .v (.pointer none), .v (.pointer none)]) 15 rfl rfl) ?_
   refine zaX (zeo (cs := [qi (zav j), qh j.length, qg ⟨#[]⟩, .pt [qi (zav p), qh p.length, qg q, trP l, trP r], .pt [qi (zav n), qh n.length, qg o, .v (.pointer none), .v (.pointer none)]]) 83 rfl rfl) ?_
   refine G [6, 9, 0] ?_
   exact yE
  | false =>
   rw [show bitN n j.length = 0 by unfold bitN; rw [hb]; rfl] at hS
   rw [if_neg (by simp)]
   refine G [11] ?_
   refine jfb zbq ?_
   refine jfb (zam zcs rfl) ?_
   refine zaa (zas U82 rfl sz82 qG (rfl)) rfl rfl ?_
   refine lN U82 rfl sz82 rfl rfl ⟨rfl, trivial⟩ ?_
   refine cV hJ ?_
   refine G [14] ?_
   refine cV hS ?_
   refine G [13] ?_
   refine zaa (zaQ U162 zdq qp qp qD) rfl rfl ?_
   refine zab (zcM (Y := .ref _ _) zdq rfl qI qv qM) rfl rfl ⟨rfl, trivial⟩ ?_
   refine G [2] ?_
   refine zaa (zaQ U162 zdq qp qp qD) rfl rfl ?_
   refine G [2, 9, 0] ?_
   refine zaX (zeo (cs := [qi (zav n), qh n.length, qg o, .v (.pointer none), .v (.pointer none)]) 15 rfl rfl) ?_
   refine zaX (zeo (cs := [qi (zav j), qh j.length, qg ⟨#[]⟩, .pt [qi (zav n), qh n.length, qg o, .v (.pointer none), .v (.pointer none)], .pt [qi (zav p), qh p.length, qg q, trP l, trP r]]) 83 rfl rfl) ?_
   refine G [6, 9, 0] ?_
   exact yE
def zc8 (l : List ND) : TR := rootRes (zds l.length l)
theorem trieE_iff {l : List ND} (hok : ∀ x ∈ l, x.OK) : zgV l = 0 ↔ isTrie l (zc8 l) := by
 unfold zgV
 constructor
 ·intro h
  split at h
  ·rename_i h'; exact absurd h h'
  ·split at h
   ·rename_i h1 h2; subst h2; exact ⟨trivial, trivial, rfl⟩
   ·split at h
    ·rename_i h1 h2 h3
     unfold zc8
     cases hq : zds l.length l with
     | none => rw [hq] at h3; cases h3
     | some r =>
      obtain ⟨t, rest⟩ := r
      rw [hq] at h3
      obtain ⟨⟨hv, hs, _⟩, hl⟩ := zd8 hok hq
      cases rest with
      | cons => cases h3
      | nil => exact ⟨hv, hs, by rw [qbA] at hl; exact hl⟩
    ·exact absurd h qE
 ·rintro ⟨hv, hs, hl⟩
  have h0 : zez l = 0 := zfk.2 fun x hx => TR.list_fault hs x (by rw [← hl]; exact hx)
  rw [if_neg (by simp [h0])]
  by_cases hne : l = []
  ·rw [if_pos hne]
  ·rw [if_neg hne]
   obtain ⟨t, ht⟩ := (isTrie_grow hok hne).1 ⟨_, hv, hs, hl⟩
   rw [ht]; rfl
theorem trieE_list {t : TR} (hok : ∀ x ∈ t.list, x.OK) (hv : t.valid) (hs : t.short) : zgV t.list = 0 ∧ zc8 t.list = t := by
 have h2 : zc8 t.list = t := by
  unfold zc8
  by_cases hn : t = .nil
  ·subst hn; rfl
  ·have := zeM (t := t) (n := t.list.length) (rest := []) ⟨hv, hs, hn⟩ (Nat.le_refl _)
   rw [qbA] at this
   rw [this]; rfl
 exact ⟨(trieE_iff hok).2 (by rw [h2]; exact ⟨hv, hs, rfl⟩), h2⟩
theorem TR.put_len : ∀ (t : TR) (n : Key) (o : Own), (t.put n o).list.length ≤ t.list.length + 2
 | .nil, n, o => by simp [TR.put, TR.list_nd, TR.list_nil]
 | .nd p q l r, n, o => by
  have h1 := TR.put_len l n o
  have h2 := TR.put_len r n o
  rw [TR.put]
  split
  ·simp [TR.list_nd]
  ·split
   ·split
    ·simp only [TR.list_nd, qbs, qbg] at *; omega
    ·simp only [TR.list_nd, qbs, qbg] at *; omega
   ·split
    ·split <;> simp [TR.list_nd, TR.list_nil]
    ·split <;> (simp only [TR.list_nd, TR.list_nil, qbs, qbg, qcy]; omega)
def nRes (e : Int) : AV := if e = 0 then .tup [.row 0, qd 0] else .tup [qm, qd e]
def nNew (e : Int) (l : List ND) : List (Nat × AObj) := if e = 0 then [(0, .row 84 4 l.length (nds l))] else []
theorem ziX {e : Int} (he : e ≠ 0) (l : List ND) : nRes e = .tup [qm, qd e] ∧ nNew e l = [] := by unfold nRes nNew; rw [if_neg he, if_neg he]; exact ⟨rfl, rfl⟩
theorem zhy (l : List ND) : nRes 0 = .tup [.row 0, qd 0] ∧ nNew 0 l = [(0, .row 84 4 l.length (nds l))] := by unfold nRes nNew; rw [if_pos rfl, if_pos rfl]; exact ⟨rfl, rfl⟩
theorem zew (l : List ND) : (nds l).all PV.isV = true := by
 induction l with
 | nil => rfl
 | cons x l ih => rw [zdu]; simp [PV.isV, ih]
def putE (l : List ND) (n : ND) : Int := if zgV l ≠ 0 then zgV l else if n.fault ≠ 0 then n.fault else if n.o = noOwn then 3 else 0
def putL (l : List ND) (n : ND) : List ND := ((zc8 l).put n.key n.o).list
theorem Put_s (l : List ND) (hok : ∀ x ∈ l, x.OK) (hz : l.length * 40 ≤ 140737488351232) (n : ND) (hn : n.OK) : Fn prog 41 [.p (ndsV l), .agg (netA n.a n.n), qc n.o] (nRes (putE l n)) (nNew (putE l n) (putL l n)) := by
 have hC := tcheck_s l hok qp
 have hT := tree_s l hok qp
 have hTi := trieE_iff hok
 have hN := zcp n.a n.n hn.a0 hn.a1
 have hK := @ND.keyed n hn.a0 hn.a1
 have e0 : zan n.a n.n = n.fault := rfl
 rw [e0] at hN
 unfold putE
 by_cases h1 : zgV l ≠ 0
 ·rw [if_pos h1]
  obtain ⟨e1, e2⟩ := ziX h1 (putL l n)
  rw [e1, e2]
  generalize zgV l = e at *
  refine fnI fun w0 A => ?_
  refine G [10] ?_
  refine cV hC ?_
  refine jdv ?_
  refine cX ?_ ?_ <;> intro h
  ·exact jb3
  ·exact absurd qz h1
 rw [if_neg h1]
 replace h1 : zgV l = 0 := qbk.1 h1
 rw [h1] at hC
 by_cases h2 : n.fault ≠ 0
 ·rw [if_pos h2]
  obtain ⟨e1, e2⟩ := ziX h2 (putL l n)
  rw [e1, e2]
  generalize n.fault = e at *
  refine fnI fun w0 A => ?_
  refine G [10] ?_
  refine cV hC ?_
  refine G [5, 1, 1, 9, 0] ?_
  refine cX ?_ ?_ <;> intro h
  ·cases h
  refine G [5] ?_
  refine cV hN ?_
  refine jdv ?_
  refine cX ?_ ?_ <;> intro h
  ·exact jb3
  ·exact absurd qz h2
 rw [if_neg h2]
 replace h2 : n.fault = 0 := qbk.1 h2
 rw [h2] at hN
 by_cases h3 : n.o = noOwn
 ·rw [if_pos h3]
  obtain ⟨e1, e2⟩ := ziX (show (3 : Int) ≠ 0 by decide) (putL l n)
  rw [e1, e2, h3]
  refine fnI fun w0 A => ?_
  refine G [10] ?_
  refine cV hC ?_
  refine G [5, 1, 1, 9, 0] ?_
  refine cX ?_ ?_ <;> intro h
  ·cases h
  refine G [5] ?_
  refine cV hN ?_
  refine G [5, 1, 1, 9, 0] ?_
  refine cX ?_ ?_ <;> intro h
  ·cases h
  refine G [5, 1, 1, 9, 0] ?_
  exact jbR
 rw [if_neg h3]
 obtain ⟨e1, e2⟩ := zhy (putL l n)
 rw [e1, e2]
 clear e1 e2
 obtain ⟨hv, hs, hl⟩ := hTi.1 h1
 obtain ⟨k1, k2, k3⟩ := hK h2
 have hP := put_s (zc8 l) n.key n.o hs k1
 have hlen := TR.put_len (zc8 l) n.key n.o
 rw [← hl] at hlen
 have hL := list_s ((zc8 l).put n.key n.o) qp
 have hCl := cloneN_s ((zc8 l).put n.key n.o).list.length (nds ((zc8 l).put n.key n.o).list) (zev _) qp
 have hT' : Fn prog 77 [.p (ndsV l)] (.p (trP (zc8 l))) [] := hT
 have hiv := zew ((zc8 l).put n.key n.o).list
 unfold putL
 unfold keyA at hP
 rw [← k2, ← k3] at hP
 generalize ((zc8 l).put n.key n.o) = u at *
 generalize zc8 l = t at *
 generalize nds u.list = cs at *
 generalize u.list.length = m at *
 refine fnI fun w0 A => ?_
 refine G [10] ?_
 refine cV hC ?_
 refine G [5, 1, 1, 9, 0] ?_
 refine cX ?_ ?_ <;> intro h
 ·cases h
 refine G [5] ?_
 refine cV hN ?_
 refine G [5, 1, 1, 9, 0] ?_
 refine cX ?_ ?_ <;> intro h
 ·cases h
 refine jdv ?_
 refine cX ?_ ?_ <;> intro h
 ·exact absurd qz h3
 refine G [2] ?_
 refine zf1 8 qr ?_
 refine jdJ ?_
 refine cK hT' ?_
 refine G [2] ?_
 refine cK hP ?_
 refine cK hL ?_
 refine zbG (fun n => 28 + 1000 * n) (hCl) rfl rfl func44 rfl rfl (by simp [AV.noSl, AV.noSlL, AObj.noSl, hiv]) (by simp [AV.noSl, AV.noSlL, AObj.noSl, hiv]) rfl rfl rfl qq rfl rfl rfl ?_
 refine G [4, 9, 0] ?_
 refine yT (fun _ => 28) ?_ ?_
 ·exact rfl
 ·exact ja3
theorem krJoin_s (p q : Key) (hp : p.length ≤ 32) (hq : q.length ≤ 32) : Fn prog 87 [.agg (keyA p), .agg (keyA q)] (.tup [.agg (keyA (lcpL p q)), qd 0]) [] := by
 have h := nrJoin_s (zav p) p.length (zav q) q.length (zbR p hp) (zbR q hq) (zbl p hp).1 (zbl p hp).2 (zbl q hq).1 (zbl q hq).2
 exact jcS
theorem kbit_s (q : Key) (i : Nat) (hq : q.length ≤ 32) (hi : i < q.length) : Fn prog 88 [qe (zav q), qd (i : Nat)] (qe (bitN q i : Nat)) [] := by
 have h := nbit_s (zav q) (i : Nat) qp qp (zbl q hq).1 (zbl q hq).2
 have e : bitI (zav q) (i : Nat) = ((bitN q i : Nat) : Int) := by
  unfold bitI bitN
  rw [bit_key q i hq hi]
  split <;> rfl
 rwa [e] at h
theorem one_at {M : List (Key × Own)} {i : Nat} {x : Key × Own} (h : M[i]? = some x) : ((nds (M.map one)).drop (i * 4)).take 4 = [qi (zav x.1), qh x.1.length, qg x.2, qh 1] :=
 nds_at _ i (one x) (by rw [qbV, h]; rfl)
theorem one_len (M : List (Key × Own)) : (nds (M.map one)).length = M.length * 4 := by rw [zev, qbu]
theorem toND_len (n : Nat) (M : List (Key × Own)) : ((zbm n M).map toND).length ≤ 2 * M.length := by
 have := zdQ n M
 rw [qbu]; omega
theorem grown_s : ∀ (n : Nat) (M : List (Key × Own)), M.length ≤ n → (∀ x ∈ M, x.1.length ≤ 32) → M.length ≤ 17179869184 →
 Fn prog 50 [ql M.length 4 (nds (M.map one))] (.row 0) [(0, .row 84 4 ((zbm n M).map toND).length (nds ((zbm n M).map toND)))]
 | n, [], hn, hK, hz => by
  have e : (zbm n []).map toND = [] := by cases n <;> rfl
  rw [e]
  show Fn prog 50 [ql 0 4 []] (.row 0) [(0, .row 84 4 0 [])]
  refine fnI fun w0 A => ?_
  refine G [9, 1, 1, 9, 0] ?_
  refine cX ?_ ?_ <;> intro h
  ·refine G [4, 9, 0] ?_
   refine zaK (zbF 2 100 84 4 rfl rfl) ?_
   refine zaA (zbA (yT (fun _ => 100) ?_ ?_))
   ·exact rfl
   ·exact ⟨⟨rfl, rfl⟩, trivial⟩
  ·cases h
 | 0, _ :: _, hn, _, _ => by simp at hn
 | n + 1, x0 :: l, hn, hK, hz => by
  have ih := grown_s n
  have hL := zdQ n (zaU (zaV (x0 :: l)) false (x0 :: l))
  have hR := zdQ n (zaU (zaV (x0 :: l)) true (x0 :: l))
  have hside := ziL (zaV (x0 :: l)) (x0 :: l)
  have hlt := side_lt (M := x0 :: l) qC
  have hjp := zd6 (l := x0 :: l)
  have hx0 := hK x0 qC
  have hgr : zbm (n + 1) (x0 :: l) = (zaV (x0 :: l), zdC (zaV (x0 :: l)) (x0 :: l), 1 + (zbm n (zaU (zaV (x0 :: l)) false (x0 :: l)) ++ zbm n (zaU (zaV (x0 :: l)) true (x0 :: l))).length) :: (zbm n (zaU (zaV (x0 :: l)) false (x0 :: l)) ++ zbm n (zaU (zaV (x0 :: l)) true (x0 :: l))) := rfl
  rw [hgr]
  clear hgr
  have hJ : zaV (x0 :: l) = zhE x0.1 ((x0 :: l).map Prod.fst) := rfl
  have hJl := joinAll_le (M := x0 :: l) hK
  obtain ⟨top, htop⟩ : ∃ top, top = zaV (x0 :: l) := ⟨_, rfl⟩
  rw [← htop] at hL hR hside hlt hjp hJ hJl ⊢
  have hfst : ∃ cs, nds ((x0 :: l).map one) = qi (zav x0.1) :: qh x0.1.length :: cs := ⟨_, rfl⟩
  have hM0 : (x0 :: l)[0]? = some x0 := rfl
  have hpos : 0 < (x0 :: l).length := qC
  generalize x0 :: l = M at *
  have hlen := one_len M
  obtain ⟨cs, hcs⟩ := hfst
  refine fnI fun w0 A => ?_
  refine G [11, 9, 0] ?_
  refine cX ?_ ?_ <;> intro h
  ·exfalso; simp at h; rw [h] at hpos; simp at hpos
  clear h
  have h0at : ((nds (M.map one)).drop (Int.toNat 0 * 4)).take 4 = [qi (zav x0.1), qh x0.1.length, qg x0.2, qh 1] := one_at hM0
  have h0d : (nds (M.map one)).drop (Int.toNat 0 * 4) = qi (zav x0.1) :: qh x0.1.length :: cs := hcs
  generalize hB : nds (M.map one) = B at *
  refine G [4] ?_
  refine zaa (zaZ U25 sz84 qp qp h0d) rfl rfl ?_
  refine jfb (zam fi84_0 rfl) ?_
  refine zaa (zas U82 rfl sz82 qC (rfl)) rfl rfl ?_
  refine G [11] ?_
  refine zeC (St.of [(0, ql M.length 4 B), (3, .ref 3 0)] [(3, .box 82 (keyA top))]) ?_ ?_
  ·refine zac (fun m st => ∃ i : Nat, m + i = M.length ∧ st = St.of [(0, ql M.length 4 B), (3, .ref 3 0), (19, ql M.length 4 B), (20, qd M.length), (21, qd i)] [(3, .box 82 (keyA (zhE x0.1 ((M.take i).map Prod.fst))))]) M.length ?_ ?_
   ·refine ⟨_, zae id _ _ qt qt rfl, 0, qp, rfl⟩
   rintro m st ⟨i, hi, rfl⟩
   refine G [5] ?_
   refine cX ?_ ?_ <;> intro h
   ·have hlt : i < M.length := qu
    clear h
    obtain ⟨x, hx⟩ := qo hlt
    have hld := one_at hx
    rw [hB] at hld
    have hxl := hK x (qbh hx)
    have hnx := joinK_take (p := x0.1) hx
    have hJp := (zgq ((M.take i).map Prod.fst) x0.1).length_le
    have hC := krJoin_s (zhE x0.1 ((M.take i).map Prod.fst)) x.1 qp hxl
    rw [← hnx] at hC
    generalize zhE x0.1 ((M.take i).map Prod.fst) = j at *
    refine G [6] ?_
    refine zaa (zas U84 rfl sz84 qU (hld)) rfl rfl ?_
    refine G [7] ?_
    refine cV hC ?_
    refine G [9, 9, 0] ?_
    refine ⟨m - 1, qp, _, zae id _ _ qt qt rfl, i + 1, qp, rfl⟩
   ·have hge : i = M.length := qu
    subst hge
    rw [qbI, ← hJ]
    refine zaJ (zbK (zbK (zb8 (zaH ?_))))
    exact zae id _ _ qt qt rfl
  refine G [12, 9, 0] ?_
  refine zaK (zbF 7 7 84 4 rfl rfl) ?_
  refine zaK (zbF 8 8 84 4 rfl rfl) ?_
  refine G [8] ?_
  refine zeC (St.of [(6, .ref 6 0), (7, .row 7), (8, .row 8)] [(6, .box 84 [qe (zav top), qd top.length, qc (zdC top M), qd 0]), (7, .row 84 4 (zaU top false M).length (nds ((zaU top false M).map one))), (8, .row 84 4 (zaU top true M).length (nds ((zaU top true M).map one)))]) ?_ ?_
  ·refine zac (fun m st => ∃ i : Nat, m + i = M.length ∧ st = St.of [(3, .ref 3 0), (6, .ref 6 0), (7, .row 7), (8, .row 8), (35, ql M.length 4 B), (36, qd M.length), (37, qd i)] [(3, .box 82 (keyA top)), (6, .box 84 [qe (zav top), qd top.length, qc (zdC top (M.take i)), qd 0]), (7, .row 84 4 (zaU top false (M.take i)).length (nds ((zaU top false (M.take i)).map one))), (8, .row 84 4 (zaU top true (M.take i)).length (nds ((zaU top true (M.take i)).map one)))]) M.length ?_ ?_
   ·refine ⟨_, zae id _ _ qt qt rfl, 0, qp, rfl⟩
   rintro m st ⟨i, hi, rfl⟩
   refine G [5] ?_
   refine cX ?_ ?_ <;> intro h
   ·have hlt' : i < M.length := qu
    clear h
    obtain ⟨x, hx⟩ := qo hlt'
    have hld := one_at hx
    rw [hB] at hld
    have hxl := hK x (qbh hx)
    have hxp := hjp x (qbh hx)
    have n1 := rootOwn_take (top := top) hx
    have n2 := zic (top := top) (b := false) hx
    have n3 := zic (top := top) (b := true) hx
    have hEq := keyEq (p := x.1) (q := top) hxl
    have hsd := ziL top (M.take i)
    have htk := take_len M i
    generalize zdC top (M.take i) = ow at *
    generalize zaU top false (M.take i) = sl at *
    generalize zaU top true (M.take i) = sr at *
    obtain ⟨xk, xo⟩ := x
    simp only at n1 n2 n3 hEq hxp hxl hld
    by_cases hxt : xk = top
    ·rw [if_pos hxt] at n1
     rw [if_neg (by simp [hxt]), qbA] at n2 n3
     rw [hxt] at hEq hld
     subst n1
     subst n2
     subst n3
     refine G [6] ?_
     refine zaa (zas U84 rfl sz84 qU (hld)) rfl rfl ?_
     refine G [9] ?_
     refine zaa (a_steqT U82 rfl qr qr) rfl rfl ?_
     refine G [2, 9, 0] ?_
     refine cX ?_ ?_ <;> intro h
     ·skip
      refine G [10, 9, 0] ?_
      refine ⟨m - 1, qp, _, zae id _ _ qt qt rfl, i + 1, qp, rfl⟩
     ·cases h
    ·rw [if_neg hxt] at n1
     rw [decide_eq_false hxt] at hEq
     have hx1 := zcD hxp hxt
     have hxlt : top.length < xk.length := by have := hx1.length_le; simp at this; omega
     have hbit := kbit_s xk top.length hxl hxlt
     cases hb : zbN xk top.length with
     | false =>
      rw [if_pos ⟨hxt, hb⟩] at n2
      rw [if_neg (by simp [hb]), qbA] at n3
      subst n1
      subst n3
      rw [show bitN xk top.length = 0 by unfold bitN; rw [hb]; rfl] at hbit
      have hl2 : sl.length + 1 = (zaU top false (M.take (i + 1))).length := by rw [n2]; simp
      have happ : nds (sl.map one) ++ [qi (zav xk), qh xk.length, qg xo, qh 1] = nds ((zaU top false (M.take (i + 1))).map one) := by rw [n2, qbF, zhx]; rfl
      refine G [6] ?_
      refine zaa (zas U84 rfl sz84 qU (hld)) rfl rfl ?_
      refine G [9] ?_
      refine zaa (zfm U82 rfl rfl qr qr qr) rfl rfl ?_
      refine G [2, 9, 0] ?_
      refine cX ?_ ?_ <;> intro h
      ·have h' := h
       rw [hEq] at h'; cases h'
      refine G [7] ?_
      refine cV hbit ?_
      refine G [0, 1, 2, 9, 0] ?_
      refine cX ?_ ?_ <;> intro h
      ·skip
       refine G [3] ?_
       refine zab (xs := [.agg [qe (zav xk), qd xk.length, qc xo, qd 1]]) (zag (es := [qe (zav xk), qd xk.length, qc xo, qd 1]) (cs := [qi (zav xk), qh xk.length, qg xo, qh 1]) 63 U25 sz84 zc84 (qbe rfl) (qbe rfl) rfl qr qr qr (qbe rfl)) qP rfl ⟨rfl, trivial⟩ ?_
       refine zab (zaq 64 U25 eo84 (zaS) qB qp hl2 happ) rfl rfl ⟨rfl, rfl, rfl, trivial⟩ ?_
       refine G [6, 9, 0] ?_
       refine ⟨m - 1, qp, _, zae (fun o => bif Nat.beq o 7 then 64 else o) _ _ qt qt rfl, i + 1, qp, rfl⟩
      ·cases h
     | true =>
      rw [if_pos ⟨hxt, hb⟩] at n3
      rw [if_neg (by simp [hb]), qbA] at n2
      subst n1
      subst n2
      rw [show bitN xk top.length = 1 by unfold bitN; rw [hb]; rfl] at hbit
      have hl2 : sr.length + 1 = (zaU top true (M.take (i + 1))).length := by rw [n3]; simp
      have happ : nds (sr.map one) ++ [qi (zav xk), qh xk.length, qg xo, qh 1] = nds ((zaU top true (M.take (i + 1))).map one) := by rw [n3, qbF, zhx]; rfl
      refine G [6] ?_
      refine zaa (zas U84 rfl sz84 qU (hld)) rfl rfl ?_
      refine G [9] ?_
      refine zaa (zfm U82 rfl rfl qr qr qr) rfl rfl ?_
      refine G [2, 9, 0] ?_
      refine cX ?_ ?_ <;> intro h
      ·have h' := h
       rw [hEq] at h'; cases h'
      refine G [7] ?_
      refine cV hbit ?_
      refine G [3, 9, 0] ?_
      refine cX ?_ ?_ <;> intro h
      ·cases h
      ·skip
       refine G [3] ?_
       refine zab (xs := [.agg [qe (zav xk), qd xk.length, qc xo, qd 1]]) (zag (es := [qe (zav xk), qd xk.length, qc xo, qd 1]) (cs := [qi (zav xk), qh xk.length, qg xo, qh 1]) 43 U25 sz84 zc84 (qbe rfl) (qbe rfl) rfl qr qr qr (qbe rfl)) qP rfl ⟨rfl, trivial⟩ ?_
       refine zab (zaq 44 U25 eo84 (zaS) qB qp hl2 happ) rfl rfl ⟨rfl, rfl, rfl, trivial⟩ ?_
       refine G [6, 9, 0] ?_
       refine ⟨m - 1, qp, _, zae (fun o => bif Nat.beq o 8 then 44 else o) _ _ qt qt rfl, i + 1, qp, rfl⟩
   ·have hge : i = M.length := qu
    subst hge
    rw [qbI]
    refine zaJ (zbK (zbK (zb8 (zaH ?_))))
    exact zae id _ _ qt qt rfl
  have gl := ih (zaU top false M) (by have := hlt false; omega) (fun x hx => hK x (zhp.1 hx).1) qp
  have gr := ih (zaU top true M) (by have := hlt true; omega) (fun x hx => hK x (zhp.1 hx).1) qp
  have b1 := zew ((zaU top false M).map one)
  have b2 := zew ((zaU top true M).map one)
  have b3 := zew ((zbm n (zaU top false M)).map toND)
  have b4 := zew ((zbm n (zaU top true M)).map toND)
  have l1 := toND_len n (zaU top false M)
  have l2 := toND_len n (zaU top true M)
  rw [qbj, qbF, zdu, zhx]
  have e1 : 1 + (zbm n (zaU top false M) ++ zbm n (zaU top true M)).length = 1 + (((zbm n (zaU top false M)).map toND).length + ((zbm n (zaU top true M)).map toND).length) := qC
  rw [e1]
  simp only [qbs, qbg] at *
  clear e1 hJ
  generalize (zbm n (zaU top false M)).map toND = L1 at *
  generalize (zbm n (zaU top true M)).map toND = L2 at *
  generalize zaU top false M = M1 at *
  generalize zaU top true M = M2 at *
  generalize zdC top M = ow at *
  refine G [3] ?_
  refine zbG (fun n => 67 + 1000 * n) (gl) rfl rfl func50 rfl rfl (by simp [AV.noSl, AV.noSlL, AObj.noSl, b3]) (by simp [AV.noSl, AV.noSlL, AObj.noSl, b3]) rfl rfl rfl qq rfl rfl rfl ?_
  refine jfb (zaF (r := .row _)) ?_
  refine zbG (fun n => 69 + 1000 * n) (gr) rfl rfl func50 rfl rfl (by simp [AV.noSl, AV.noSlL, AObj.noSl, b4]) (by simp [AV.noSl, AV.noSlL, AObj.noSl, b4]) rfl rfl rfl qq rfl rfl rfl ?_
  refine zab (zaq 70 U25 eo84 (zaS) qB qp rfl rfl) rfl rfl ⟨rfl, rfl, rfl, trivial⟩ ?_
  refine G [2] ?_
  have hsz : IntKind.i64.wrap (1 + ((L1.length + L2.length : Nat) : Int)) = ((1 + (L1.length + L2.length) : Nat) : Int) := qaD
  have hk1 : 1 + (L1.length + L2.length) = L1.length + L2.length + 1 := qp
  refine G [4] ?_
  refine jfb (zgF hsz) ?_
  refine G [6] ?_
  refine zab (xs := [.agg [qe (zav top), qd top.length, qc ow, qd ((1 + (L1.length + L2.length) : Nat) : Int)]]) (zag (es := [qe (zav top), qd top.length, qc ow, qd ((1 + (L1.length + L2.length) : Nat) : Int)]) (cs := [qi (zav top), qh top.length, qg ow, qh ((1 + (L1.length + L2.length) : Nat) : Int)]) 76 U25 sz84 zc84 (qbe rfl) (qbe rfl) rfl qr qr qr (qbe rfl)) qP rfl ⟨rfl, trivial⟩ ?_
  refine jfb (zaF (r := .row _)) ?_
  refine zab (zaq 78 U25 eo84 (zaS) qB qp hk1 rfl) rfl rfl ⟨rfl, rfl, rfl, trivial⟩ ?_
  refine G [3, 9, 0] ?_
  refine yT (fun _ => 78) ?_ ?_
  ·exact rfl
  ·exact ⟨⟨rfl, rfl⟩, trivial⟩
theorem ND.of_ty {n : Nat} {ps : List PV} (h : Ty prog (n + 3) 84 ps) : ∃ x : ND, x.OK ∧ ps = x.pv := by
 obtain ⟨_, rfl, x0, _, rfl, t0, x1, _, rfl, t1, x2, _, rfl, t2, rfl⟩ := zbi (ts := [82, 9, 3]) qr h
 obtain ⟨_, rfl, y0, _, rfl, u0, y1, _, rfl, u1, rfl⟩ := zbi (ts := [80, 3]) qr t0
 obtain ⟨a1, rfl, w1⟩ := zbD U9 t1
 obtain ⟨a2, rfl, w2⟩ := zbz U3 t2
 obtain ⟨b0, rfl, v0⟩ := zbz U80 u0
 obtain ⟨b1, rfl, v1⟩ := zbz U3 u1
 refine ⟨⟨b0, b1, a1, a2⟩, ?_, rfl⟩
 have := zeS w2; have := zeS v1; have := wf_u32 v0
 exact jdo
theorem nodes_of_ty {n : Nat} {ps : List PV} (h : Ty prog (n + 4) 25 ps) : ∃ l : List ND, (∀ x ∈ l, x.OK) ∧ l.length * 40 ≤ 140737488351232 ∧ ps = [ndsV l] := by
 obtain ⟨L, rfl, hz, hL⟩ := ty_sliceS U25 (sz := 4) qr h
 have hb : prog.bytesOf 84 = 40 := qr
 rw [hb] at hz
 have : reachBytes ≤ 140737488351232 := qbe rfl
 have hex : ∃ l : List ND, (∀ x ∈ l, x.OK) ∧ L = l.map ND.pv := by
  clear hz this h
  induction L with
  | nil => exact ⟨[], qC, rfl⟩
  | cons y L ih =>
   obtain ⟨l, h1, h2⟩ := ih (fun x hx => hL x qba)
   obtain ⟨x, hx, e⟩ := ND.of_ty (hL y qC).1
   refine ⟨x :: l, fun z hz => ?_, by rw [h2, e]; rfl⟩
   rcases qbm.1 hz with rfl | hz
   ·exact hx
   ·exact h1 z hz
 obtain ⟨l, h1, rfl⟩ := hex
 rw [qbu] at hz
 refine ⟨l, h1, qp, ?_⟩
 rw [qbu]
 unfold ndsV nds
 rw [List.flatMap_def]
structure DM where
 c : CF
 tree : List ND
 ps : List ST
 sg : SG
 gen : Int
 now : Int
 last : Int
def dmC (key : ByteArray) (port : Int) (P T S : PV) (lv : Bool) (R : PV) (sk : ByteArray) (sp : Int) (Q : PV) (at_ : ByteArray) (err gen now last : Int) : List AV :=
 [qc key, qd port, .p P, .p T, .p S, qf lv, .p R, qc sk, qd sp, .p Q, qc at_, qd err, qd gen, qd now, qd last]
def CF.row (c : CF) : PV := .sl c.ps.length 5 (c.ps.flatMap PE.pv)
def stsV (l : List ST) : PV := .sl l.length 41 (l.flatMap ST.pv)
def sesV (l : List SE) : PV := .sl l.length 5 (l.flatMap SE.pv)
def DM.cells (d : DM) : List AV := dmC d.c.key d.c.port d.c.row (ndsV d.tree) (stsV d.ps) d.sg.lv (sesV d.sg.rest) d.sg.c.key d.sg.c.port d.sg.c.row d.sg.at_ d.sg.err d.gen d.now d.last
def DM.pv (d : DM) : List PV := d.c.pv ++ [ndsV d.tree, stsV d.ps] ++ d.sg.pv ++ [qh d.gen, qh d.now, qh d.last]
structure DM.OK (d : DM) : Prop where
 c : d.c.OK
 tree : ∀ x ∈ d.tree, x.OK
 treeN : d.tree.length * 40 ≤ 140737488351232
 ps : ∀ s ∈ d.ps, s.OK ∧ s.B
 psN : d.ps.length ≤ 1048576
 sg : d.sg.OK
theorem DM.of_ty {n : Nat} {ps : List PV} (h : Ty prog (n + 9) 32 ps) (hb : PV.bdL 1048576 ps) : ∃ d : DM, d.OK ∧ ps = d.pv := by
 obtain ⟨_, rfl, x0, _, rfl, t0, x1, _, rfl, t1, x2, _, rfl, t2, x3, _, rfl, t3, x4, _, rfl, t4, x5, _, rfl, t5, x6, _, rfl, t6, rfl⟩ := zbi (ts := [24, 25, 26, 30, 3, 3, 3]) qr h
 obtain ⟨c, okc, rfl⟩ := CF.of_ty t0 (zbs hb x0 qC)
 obtain ⟨tr, okt, hz, rfl⟩ := nodes_of_ty t1
 obtain ⟨l, okl, hl, rfl⟩ := ST.list_tyB t2 (zbs hb x2 qC)
 obtain ⟨s, oks, rfl⟩ := SG.of_ty t3 (zbs hb x3 qC)
 obtain ⟨a4, rfl, _⟩ := zbz U3 t4
 obtain ⟨a5, rfl, _⟩ := zbz U3 t5
 obtain ⟨a6, rfl, _⟩ := zbz U3 t6
 exact ⟨⟨c, tr, l, s, a4, a5, a6⟩, ⟨okc, okt, hz, okl, hl, oks⟩, by simp [DM.pv, stsV]⟩
noncomputable def sgB (s t : SG) : Bool := ((((s.lv == t.lv) && eqB s.rest t.rest) && cfB s.c t.c) && decide (s.at_ = t.at_)) && (s.err == t.err)
noncomputable def dmB (d o : DM) : Bool := (((((cfB d.c o.c && eqB d.tree o.tree) && eqB d.ps o.ps) && sgB d.sg o.sg) && (d.gen == o.gen)) && (d.now == o.now)) && (d.last == o.last)
theorem cfB_self (c : CF) : cfB c c = true := by simp [cfB, zja]
theorem sgB_self (s : SG) : sgB s s = true := by simp [sgB, zja, cfB_self]
theorem dmB_self (d : DM) : dmB d d = true := by simp [dmB, zja, cfB_self, sgB_self]
theorem sameNodes_d (l m : List ND) (hl : l.length ≤ 4611686018427387904) (hm : m.length ≤ 4611686018427387904) : Fn prog 25 [.p (ndsV l), .p (ndsV m)] (qf (eqB l m)) [] := by
 have hC := eqNodes_d l m hl hm
 change Fn prog _ [.p (ndsV l), .p (ndsV m)] _ _ at hC
 generalize eqB l m = b at *
 generalize ndsV l = L at *
 generalize ndsV m = M at *
 exact jcn
theorem sameSets_d (l m : List SE) (hl : l.length ≤ 4611686018427387904) (hm : m.length ≤ 4611686018427387904) : Fn prog 58 [.p (sesV l), .p (sesV m)] (qf (eqB l m)) [] := by
 have hC := eqSets_d l m hl hm
 change Fn prog _ [.p (sesV l), .p (sesV m)] _ _ at hC
 generalize eqB l m = b at *
 generalize sesV l = L at *
 generalize sesV m = M at *
 exact jcn
def sgV (lv : Bool) (R : PV) (sk : ByteArray) (sp : Int) (Q : PV) (at_ : ByteArray) (err : Int) : List AV := [qf lv, .p R, qc sk, qd sp, .p Q, qc at_, qd err]
def cfV (k : ByteArray) (p : Int) (Q : PV) : List AV := [qc k, qd p, .p Q]
theorem sameStage_q (s t : SG) (l1 : s.rest.length ≤ 1048576) (l2 : t.rest.length ≤ 1048576) (c1 : s.c.OK) (c2 : t.c.OK) : Fn prog 27 [.agg s.cells, .agg t.cells] (qf (sgB s t)) [] := by
 have hS := sameSets_d s.rest t.rest qp qp
 have hC := zid s.c t.c c1 c2
 clear l1 l2 c1 c2
 obtain ⟨v1, r1, ⟨k1, p1, q1⟩, a1, e1⟩ := s
 obtain ⟨v2, r2, ⟨k2, p2, q2⟩, a2, e2⟩ := t
 dsimp only at hS hC
 change Fn prog _ [.agg (cfV k1 p1 (CF.row ⟨k1, p1, q1⟩)), .agg (cfV k2 p2 (CF.row ⟨k2, p2, q2⟩))] _ _ at hC
 show Fn prog _ [.agg (sgV v1 (sesV r1) k1 p1 (CF.row ⟨k1, p1, q1⟩) a1 e1), .agg (sgV v2 (sesV r2) k2 p2 (CF.row ⟨k2, p2, q2⟩) a2 e2)] (qf (((((v1 == v2) && eqB r1 r2) && cfB ⟨k1, p1, q1⟩ ⟨k2, p2, q2⟩) && decide (a1 = a2)) && (e1 == e2))) _
 generalize cfB ⟨k1, p1, q1⟩ ⟨k2, p2, q2⟩ = cb at *
 generalize CF.row ⟨k1, p1, q1⟩ = Q1 at *
 generalize CF.row ⟨k2, p2, q2⟩ = Q2 at *
 generalize eqB r1 r2 = rb at *
 generalize sesV r1 = R1 at *
 generalize sesV r2 = R2 at *
 refine fnI fun w0 A => ?_
 refine G [12] ?_
 refine jfb (a_beql U4) ?_
 refine G [5] ?_
 refine mb2 _ rfl rfl (fun _ => zbc func58 rfl rfl (hS) qw rfl) (fun _ => trivial) ?_
 refine G [0, 2, 2] ?_
 refine mb2 _ rfl rfl (fun hb => (zao U24 rfl sz24 qv qA)) (fun _ => ⟨rfl, trivial⟩) ?_
 refine mb2 _ rfl rfl (fun hb => (zar fi30_2 rfl)) (fun _ => trivial) ?_
 refine mb2 _ rfl rfl (fun hb => (zao U24 rfl sz24 qv qA)) (fun _ => ⟨rfl, trivial⟩) ?_
 refine mb2 _ rfl rfl (fun _ => zbc func24 rfl rfl (hC) qw rfl) (fun _ => trivial) ?_
 refine G [0, 2, 6, 2, 6, 2, 3, 9, 0] ?_
 exact yE
structure DM.Q (d : DM) : Prop where
 c : d.c.OK
 treeN : d.tree.length * 40 ≤ 140737488351232
 ps : ∀ s ∈ d.ps, s.B
 psN : d.ps.length ≤ 1048576
 rest : d.sg.rest.length ≤ 1048576
 sgc : d.sg.c.OK
theorem DM.OK.q {d : DM} (h : d.OK) : d.Q := ⟨h.c, h.treeN, fun s hs => (h.ps s hs).2, h.psN, h.sg.len, h.sg.c⟩
theorem zej (d o : DM) (od : d.Q) (oo : o.Q) : Fn prog 7 [.agg d.cells, .agg o.cells] (qf (dmB d o)) [] := by
 have hC := zid d.c o.c od.c oo.c
 have hT := sameNodes_d d.tree o.tree (by have := od.treeN; omega) (by have := oo.treeN; omega)
 have hS := sameStates_d d.ps o.ps od.psN oo.psN od.ps oo.ps
 have hG := sameStage_q d.sg o.sg od.rest oo.rest od.sgc oo.sgc
 clear od oo
 obtain ⟨⟨k1, p1, q1⟩, t1, s1, ⟨v1, r1, ⟨sk1, sp1, sq1⟩, a1, e1⟩, g1, w1, l1'⟩ := d
 obtain ⟨⟨k2, p2, q2⟩, t2, s2, ⟨v2, r2, ⟨sk2, sp2, sq2⟩, a2, e2⟩, g2, w2, l2'⟩ := o
 dsimp only at hC hT hS hG
 change Fn prog _ [.agg (cfV k1 p1 (CF.row ⟨k1, p1, q1⟩)), .agg (cfV k2 p2 (CF.row ⟨k2, p2, q2⟩))] _ _ at hC
 change Fn prog _ [.p (stsV s1), .p (stsV s2)] _ _ at hS
 change Fn prog _ [.agg (sgV v1 (sesV r1) sk1 sp1 (CF.row ⟨sk1, sp1, sq1⟩) a1 e1), .agg (sgV v2 (sesV r2) sk2 sp2 (CF.row ⟨sk2, sp2, sq2⟩) a2 e2)] _ _ at hG
 show Fn prog _ [.agg (dmC k1 p1 (CF.row ⟨k1, p1, q1⟩) (ndsV t1) (stsV s1) v1 (sesV r1) sk1 sp1 (CF.row ⟨sk1, sp1, sq1⟩) a1 e1 g1 w1 l1'), .agg (dmC k2 p2 (CF.row ⟨k2, p2, q2⟩) (ndsV t2) (stsV s2) v2 (sesV r2) sk2 sp2 (CF.row ⟨sk2, sp2, sq2⟩) a2 e2 g2 w2 l2')] (qf ((((((cfB ⟨k1, p1, q1⟩ ⟨k2, p2, q2⟩ && eqB t1 t2) && eqB s1 s2) && sgB ⟨v1, r1, ⟨sk1, sp1, sq1⟩, a1, e1⟩ ⟨v2, r2, ⟨sk2, sp2, sq2⟩, a2, e2⟩) && (g1 == g2)) && (w1 == w2)) && (l1' == l2'))) _
 generalize sgB ⟨v1, r1, ⟨sk1, sp1, sq1⟩, a1, e1⟩ ⟨v2, r2, ⟨sk2, sp2, sq2⟩, a2, e2⟩ = gb at *
 generalize cfB ⟨k1, p1, q1⟩ ⟨k2, p2, q2⟩ = cb at *
 generalize CF.row ⟨k1, p1, q1⟩ = Q1 at *
 generalize CF.row ⟨k2, p2, q2⟩ = Q2 at *
 generalize eqB t1 t2 = tb at *
 generalize ndsV t1 = T1 at *
 generalize ndsV t2 = T2 at *
 generalize eqB s1 s2 = pb at *
 generalize stsV s1 = S1 at *
 generalize stsV s2 = S2 at *
 generalize CF.row ⟨sk1, sp1, sq1⟩ = SQ1 at *
 generalize CF.row ⟨sk2, sp2, sq2⟩ = SQ2 at *
 generalize sesV r1 = R1 at *
 generalize sesV r2 = R2 at *
 refine fnI fun w0 A => ?_
 refine G [12] ?_
 refine cK hC ?_
 refine G [5] ?_
 refine mb2 _ rfl rfl (fun _ => zbc func25 rfl rfl (hT) qw rfl) (fun _ => trivial) ?_
 refine G [0, 2, 5] ?_
 refine mb2 _ rfl rfl (fun _ => zbc func26 rfl rfl (hS) qw rfl) (fun _ => trivial) ?_
 refine G [0, 2, 2] ?_
 refine mb2 _ rfl rfl (fun hb => (zao underlying30 rfl sz30 qv qA)) (fun _ => ⟨rfl, trivial⟩) ?_
 refine mb2 _ rfl rfl (fun hb => (zar fi32_3 rfl)) (fun _ => trivial) ?_
 refine mb2 _ rfl rfl (fun hb => (zao underlying30 rfl sz30 qv qA)) (fun _ => ⟨rfl, trivial⟩) ?_
 refine mb2 _ rfl rfl (fun _ => zbc func27 rfl rfl (hG) qw rfl) (fun _ => trivial) ?_
 refine G [0, 2, 6, 2, 6, 2, 6, 2, 3, 9, 0] ?_
 exact yE
end Go.Proofs.YtlfjpippeeikdaaGreatDoor
