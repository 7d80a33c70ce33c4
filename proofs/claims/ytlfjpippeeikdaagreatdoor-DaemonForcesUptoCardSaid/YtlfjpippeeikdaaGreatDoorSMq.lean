/- The machine over data: maps. -/
import Derived.MapKept
import Derived.Test.YtlfjpippeeikdaaGreatDoorSCf1
set_option linter.all false
namespace Go.Proofs.YtlfjpippeeikdaaGreatDoor
open Go.RowKit Go.Sort
def zeq (d : TypeDesc) (k : Value) : List (Value × Value) → Nat → Option (Option (Nat × Value))
 | [], _ => some none
 | e :: l, i => match Instr.sameNow d k e.1 with
  | some true => some (some (i, e.2))
  | some false => zeq d k l (i + 1)
  | none => none
theorem zfx (d : TypeDesc) (k : Value) : ∀ (l : List MapEntry) (i : Nat), Instr.findNow d k l i = zeq d k (l.map fun e => (e.key, e.val)) i
 | [], _ => rfl
 | e :: l, i => by
  simp only [Instr.findNow, zeq, qaF]
  rw [zfx d k l (i + 1)]
  rfl
def zdi : TypeDesc → Bool
 | .int _ => true
 | .bool => true
 | .string => true
 | _ => false
theorem zdu {P : Program} {t : TypeId} {kd : TypeDesc} (hk : P.underlying t = some kd) (hp : zdi kd = true) (b : Bool) (v : Value) (w : World) : (Instr.checkKey b 10000 t v).run P w = .ok () w := by
 show (Instr.checkKey b (9999 + 1) t v).run P w = .ok () w
 generalize 9999 = d
 cases kd <;> simp only [zdi, qa0] at hp <;> simp [Instr.checkKey, run_underlying hk]
section
variable {P : Program} {d : Option Tmp} {ty : TypeId} {pos : String} {af : Array Edge} {g : Option (Nat × Bool)}
theorem a_makeMap {t : TypeId} (n : Nat) : AOp P ⟨d, .makeMap t none, ty, pos, af, g⟩ [] [(n, .un)] [(n, .live (.map []))] (.mp n) := by
 intro w0 A S m heap w ev hm hR hrd
 have hd : heap n = .un := rd1 hrd
 have hrun : (execOp ev ⟨d, .makeMap t none, ty, pos, af, g⟩).run P w = .ok (.value (.map (some w.heap.size))) (w.alloc (.map #[] 0)) := by
  simp [execOp, Instr.makeMap]
 unfold Out
 rw [hrun]
 have hb : Below w.heap.size w (w.alloc (.map #[] 0)) := (Below.refl _ _).alloc (Nat.le_refl _) _
 have hg := zdl hm hb hd (.map (some w.heap.size))
 obtain ⟨k1, k2⟩ := zds hm hb n hd (.map (some w.heap.size)) (.map []) (fun b hb => by simp [blk] at hb; omega)
  ⟨w.heap.size, #[], 0, rfl, hm.hB, by simpa using heap_alloc_new w (.map #[] 0), rfl⟩
 exact ⟨S, _, by simp only [Rep]; exact ⟨by simp [setM], _, rfl⟩, k1, k2⟩
theorem mapSet_new {t kt et : TypeId} {kd : TypeDesc} {o : Nat} {kv xv : Value} {es : List (Value × Value)} (hu : P.underlying t = some (.map kt et)) (hk : P.underlying kt = some kd) (hp : zdi kd = true) (hf : zeq kd kv es 0 = some none)
 {w0 : World} {A S : Nat → Prop} {m : Nat → Option Value} {heap : Nat → Slot} {w : World} (hm : Mem w0 A S m heap w) (ho : heap o = .live (.map es)) {mv : Value} (hv : Rep S m w (.mp o) mv) :
 ∃ w', (Instr.mapUpdate t mv kv xv).run P w = .ok () w' ∧ Mem w0 A S m (updL heap [(o, .live (.map (es ++ [(kv, xv)])))]) w' ∧ Grow S m w S m w' := by
 simp only [Rep] at hv
 obtain ⟨hx, r, rfl⟩ := hv
 obtain ⟨v, k1, k2, k3⟩ := hm.live o _ ho
 rw [hx] at k1; cases k1
 obtain ⟨r', arr, ck, e1, g1, g2, g3⟩ := k2
 obtain rfl : r' = r := by simpa using e1.symm
 have hnow : Instr.findNow kd kv arr.toList 0 = some none := by rw [zfx, g3]; exact hf
 have hfk := MapKept.run_findKey (w := w) hk hnow
 have hck := zdu hk hp false kv w
 have hlt : r' < w.heap.size := (qaZ.1 g2).1
 refine ⟨{ w with heap := w.heap.setIfInBounds r' (.map (arr.push { key := kv, val := xv, born := ck }) (ck + 1)) }, ?_, ?_⟩
 ·exact jb9
 ·have q5 : ∀ k, k ≠ r' → (w.heap.setIfInBounds r' (.map (arr.push { key := kv, val := xv, born := ck }) (ck + 1)))[k]? = w.heap[k]? := fun k hk => by
   rw [qbI (Ne.symm hk)]
  exact zit hm (w' := { w with heap := w.heap.setIfInBounds r' (.map (arr.push { key := kv, val := xv, born := ck }) (ck + 1)) }) (ob' := .map (es ++ [(kv, xv)])) (v := .map (some r')) ho hx rfl rfl rfl rfl qz q5
   ⟨r', arr.push { key := kv, val := xv, born := ck }, ck + 1, rfl, g1, by simp [hlt], by simp [g3]⟩
theorem zhA {t kt et : TypeId} {kd : TypeDesc} {o : Nat} {kv xv : Value} {es : List (Value × Value)} {x y z : Operand} (hu : P.underlying t = some (.map kt et)) (hk : P.underlying kt = some kd) (hp : zdi kd = true) (hf : zeq kd kv es 0 = some none) :
 AOp P ⟨d, .mapUpdate t x y z, ty, pos, af, g⟩ [.mp o, .p (.v kv), .p (.v xv)] [(o, .live (.map es))] [(o, .live (.map (es ++ [(kv, xv)])))] .any := by
 intro w0 A S m heap w ev hm hR hrd
 obtain ⟨h1, h2, h3⟩ := zg3 (u := ev x) (v := ev y) (t := ev z) hR
 obtain ⟨w', hrun, q1, q2⟩ := mapSet_new (xv := xv) hu hk hp hf hm (rd1 hrd) h1
 exact jbz
theorem mapSet_old {t kt et : TypeId} {kd : TypeDesc} {o i : Nat} {kv xv ov : Value} {es : List (Value × Value)} (hu : P.underlying t = some (.map kt et)) (hk : P.underlying kt = some kd) (hp : zdi kd = true) (hq : MapKept.IsKey kd kv) (hf : zeq kd kv es 0 = some (some (i, ov))) (hi : es[i]? = some (kv, ov))
 {w0 : World} {A S : Nat → Prop} {m : Nat → Option Value} {heap : Nat → Slot} {w : World} (hm : Mem w0 A S m heap w) (ho : heap o = .live (.map es)) {mv : Value} (hv : Rep S m w (.mp o) mv) :
 ∃ w', (Instr.mapUpdate t mv kv xv).run P w = .ok () w' ∧ Mem w0 A S m (updL heap [(o, .live (.map (es.set i (kv, xv))))]) w' ∧ Grow S m w S m w' := by
 simp only [Rep] at hv
 obtain ⟨hx, r, rfl⟩ := hv
 obtain ⟨v, k1, k2, k3⟩ := hm.live o _ ho
 rw [hx] at k1; cases k1
 obtain ⟨r', arr, ck, e1, g1, g2, g3⟩ := k2
 obtain rfl : r' = r := by simpa using e1.symm
 have hnow : Instr.findNow kd kv arr.toList 0 = some (some (i, ov)) := by rw [zfx, g3]; exact hf
 have hfk := MapKept.run_findKey (w := w) hk hnow
 have hck := zdu hk hp false kv w
 have hlt : r' < w.heap.size := (qaZ.1 g2).1
 have hai : ∃ e, arr[i]? = some e ∧ e.key = kv := by
  rw [← g3, qbf] at hi
  simp only [qbW, Prod.mk.injEq] at hi
  obtain ⟨e, h1, h2, h3⟩ := hi
  exact ⟨e, by rw [← Array.getElem?_toList]; exact h1, h2⟩
 obtain ⟨e, he, hek⟩ := hai
 have hst := MapKept.run_keyThatStays (P := P) (w := w) hq
 have hnew : (arr.modify i fun e => { e with key := kv, val := xv }).toList.map (fun e => (e.key, e.val)) = es.set i (kv, xv) := by
  rw [← g3]
  apply qce
  intro j
  rw [qbf, List.getElem?_set, Array.getElem?_toList, Array.getElem?_modify]
  by_cases hj : i = j
  ·subst hj
   have hlt2 : i < arr.size := (qaZ.1 he).1
   simp [he, hlt2]
  ·simp [hj]
 refine ⟨{ w with heap := w.heap.setIfInBounds r' (.map (arr.modify i fun e => { e with key := kv, val := xv }) ck) }, ?_, ?_⟩
 ·simp only [Instr.mapUpdate, qaK, run_underlying hu, qaD, MapKept.run_getObj_map g2, hck, hfk, he, qcc, Option.getD_some, hek, hst]
  exact MapKept.run_setObj_map _ g2
 ·have q5 : ∀ k, k ≠ r' → (w.heap.setIfInBounds r' (.map (arr.modify i fun e => { e with key := kv, val := xv }) ck))[k]? = w.heap[k]? := fun k hk => by
   rw [qbI (Ne.symm hk)]
  exact zit hm (w' := { w with heap := w.heap.setIfInBounds r' (.map (arr.modify i fun e => { e with key := kv, val := xv }) ck) }) (ob' := .map (es.set i (kv, xv))) (v := .map (some r')) ho hx rfl rfl rfl rfl qz q5
   ⟨r', arr.modify i fun e => { e with key := kv, val := xv }, ck, rfl, g1, by simp [hlt], hnew⟩
theorem a_mapUpdateO {t kt et : TypeId} {kd : TypeDesc} {o i : Nat} {kv xv ov : Value} {es : List (Value × Value)} {x y z : Operand} (hu : P.underlying t = some (.map kt et)) (hk : P.underlying kt = some kd) (hp : zdi kd = true) (hq : MapKept.IsKey kd kv) (hf : zeq kd kv es 0 = some (some (i, ov))) (hi : es[i]? = some (kv, ov)) :
 AOp P ⟨d, .mapUpdate t x y z, ty, pos, af, g⟩ [.mp o, .p (.v kv), .p (.v xv)] [(o, .live (.map es))] [(o, .live (.map (es.set i (kv, xv))))] .any := by
 intro w0 A S m heap w ev hm hR hrd
 obtain ⟨h1, h2, h3⟩ := zg3 (u := ev x) (v := ev y) (t := ev z) hR
 obtain ⟨w', hrun, q1, q2⟩ := mapSet_old (xv := xv) hu hk hp hq hf hi hm (rd1 hrd) h1
 exact jbz
def gotV (z : Value) : Option (Nat × Value) → Value
 | some p => p.2
 | none => z
theorem a_lookup {t kt et : TypeId} {kd : TypeDesc} {o : Nat} {kv z r : Value} {f : Option (Nat × Value)} {es : List (Value × Value)} {x y : Operand} (hu : P.underlying t = some (.map kt et)) (hk : P.underlying kt = some kd) (hp : zdi kd = true)
 (hz : (P.info? et).map (·.zero) = some (some z)) (hf : zeq kd kv es 0 = some f) (hr : gotV z f = r) (h1 : r.oneCell' = true) :
 AOp P ⟨d, .lookup t x y false, ty, pos, af, g⟩ [.mp o, .p (.v kv)] [(o, .live (.map es))] [] (.p (.v r)) :=
 zbu fun w0 A S m heap w ev hm hR hrd => by
  obtain ⟨q1, q2⟩ := zci (u := ev x) (v := ev y) hR
  have ho := rd1 hrd
  simp only [Rep] at q1
  obtain ⟨hx, b, hb⟩ := q1
  obtain ⟨v, k1, k2, k3⟩ := hm.live o _ ho
  rw [hx] at k1; cases k1
  obtain ⟨r', arr, ck, e1, g1, g2, g3⟩ := k2
  have hnow : Instr.findNow kd kv arr.toList 0 = some f := by rw [zfx, g3]; exact hf
  have hfk := MapKept.run_findKey (w := w) hk hnow
  have hck := zdu hk hp arr.isEmpty kv w
  have hzv : (zeroValue et).run P w = .ok z w := by
   cases hq : P.info? et with
   | none => simp [hq] at hz
   | some i =>
    simp [hq] at hz
    simp [zeroValue, typeInfo, hq, hz]
  refine ⟨r, ?_, za3 h1⟩
  simp only [execOp, e1, zba q2, Instr.lookup, qaK, run_underlying hu, qaD, MapKept.run_getObj_map g2, hck, hfk, qaL]
  cases f with
  | none => simp only [qaK, hzv, qaD, qaL, qa0, if_false]; rw [← hr]; rfl
  | some p => simp only [qaK, qaD, qaL, qa0, if_false]; rw [← hr]; rfl
end
end Go.Proofs.YtlfjpippeeikdaaGreatDoor
namespace Go.Proofs.YtlfjpippeeikdaaGreatDoor
open Tryz
open Go.RowKit Go.Sort
set_option maxRecDepth 100000
def CK (P : Program) (kt : TypeId) (kv : Value) : Prop := ∀ (b : Bool) (w : World), (Instr.checkKey b 10000 kt kv).run P w = .ok () w
def FK (P : Program) (kt : TypeId) (kv : Value) (es : List (Value × Value)) (f : Option (Nat × Value)) : Prop :=
 ∀ (l : List MapEntry) (w : World), (l.map fun e => (e.key, e.val)) = es → (Instr.findKey kt kv l).run P w = .ok f w
section
variable {P : Program} {d : Option Tmp} {ty : TypeId} {pos : String} {af : Array Edge} {g : Option (Nat × Bool)}
theorem a_lookupF {t kt et : TypeId} {o : Nat} {kv z r : Value} {X : AV} {f : Option (Nat × Value)} {es : List (Value × Value)} {x y : Operand} (hu : P.underlying t = some (.map kt et)) (hX : ∀ S m w u, Rep S m w X u → u = kv) (hc : CK P kt kv)
 (hz : (P.info? et).map (·.zero) = some (some z)) (hf : FK P kt kv es f) (hr : gotV z f = r) (h1 : r.oneCell' = true) :
 AOp P ⟨d, .lookup t x y false, ty, pos, af, g⟩ [.mp o, X] [(o, .live (.map es))] [] (.p (.v r)) :=
 zbu fun w0 A S m heap w ev hm hR hrd => by
  obtain ⟨q1, q2⟩ := zci (u := ev x) (v := ev y) hR
  have ho := rd1 hrd
  simp only [Rep] at q1
  obtain ⟨hx, b, hb⟩ := q1
  obtain ⟨v, k1, k2, k3⟩ := hm.live o _ ho
  rw [hx] at k1; cases k1
  obtain ⟨r', arr, ck, e1, g1, g2, g3⟩ := k2
  have hfk := hf arr.toList w g3
  have hck := hc arr.isEmpty w
  have hzv : (zeroValue et).run P w = .ok z w := by
   cases hq : P.info? et with
   | none => simp [hq] at hz
   | some i =>
    simp [hq] at hz
    simp [zeroValue, typeInfo, hq, hz]
  refine ⟨r, ?_, za3 h1⟩
  simp only [execOp, e1, hX _ _ _ _ q2, Instr.lookup, qaK, run_underlying hu, qaD, MapKept.run_getObj_map g2, hck, hfk, qaL]
  cases f with
  | none => simp only [qaK, hzv, qaD, qaL, qa0, if_false]; rw [← hr]; rfl
  | some p => simp only [qaK, qaD, qaL, qa0, if_false]; rw [← hr]; rfl
theorem a_mapUpdateF {t kt et : TypeId} {o : Nat} {kv xv : Value} {X : AV} {es : List (Value × Value)} {x y z : Operand} (hu : P.underlying t = some (.map kt et)) (hX : ∀ S m w u, Rep S m w X u → u = kv) (hc : CK P kt kv) (hf : FK P kt kv es none) :
 AOp P ⟨d, .mapUpdate t x y z, ty, pos, af, g⟩ [.mp o, X, .p (.v xv)] [(o, .live (.map es))] [(o, .live (.map (es ++ [(kv, xv)])))] .any := by
 intro w0 A S m heap w ev hm hR hrd
 obtain ⟨h1, h2, h3⟩ := zg3 (u := ev x) (v := ev y) (t := ev z) hR
 have ho := rd1 hrd
 simp only [Rep] at h1
 obtain ⟨hx, r, hmv⟩ := h1
 obtain ⟨v, k1, k2, k3⟩ := hm.live o _ ho
 rw [hx] at k1; cases k1
 obtain ⟨r', arr, ck, e1, g1, g2, g3⟩ := k2
 obtain rfl : r' = r := by rw [hmv] at e1; simpa using e1.symm
 have hfk := hf arr.toList w g3
 have hck := hc false w
 have hlt : r' < w.heap.size := (qaZ.1 g2).1
 have hrun : (Instr.mapUpdate t (.map (some r')) kv xv).run P w = .ok () { w with heap := w.heap.setIfInBounds r' (.map (arr.push { key := kv, val := xv, born := ck }) (ck + 1)) } := by
  exact jb9
 have q5 : ∀ k, k ≠ r' → (w.heap.setIfInBounds r' (.map (arr.push { key := kv, val := xv, born := ck }) (ck + 1)))[k]? = w.heap[k]? := fun k hk => by
  rw [qbI (Ne.symm hk)]
 rw [hmv] at hx
 obtain ⟨q1, q2⟩ := zit hm (w' := { w with heap := w.heap.setIfInBounds r' (.map (arr.push { key := kv, val := xv, born := ck }) (ck + 1)) }) (ob' := .map (es ++ [(kv, xv)])) (v := .map (some r')) ho hx rfl rfl rfl rfl qz q5
  ⟨r', arr.push { key := kv, val := xv, born := ck }, ck + 1, rfl, g1, by simp [hlt], by simp [g3]⟩
 have hex : (execOp ev ⟨d, .mapUpdate t x y z, ty, pos, af, g⟩).run P w = .ok .skip { w with heap := w.heap.setIfInBounds r' (.map (arr.push { key := kv, val := xv, born := ck }) (ck + 1)) } := by
  simp only [execOp, hX _ _ _ _ h2, zba h3, hmv, qaK, hrun, qaD]
  rfl
 unfold Out
 rw [hex]
 exact ⟨S, m, by simp only [Rep], q1, q2⟩
end
def netK (n : NtP) : Value := .agg #[.int .u32 n.1, .int .i64 n.2]
def netE (D : List NtP) : List (Value × Value) := D.map fun n => (netK n, .bool true)
theorem netX (n : NtP) : ∀ S m w u, Rep S m w (.agg [qe n.1, qd n.2]) u → u = netK n := by
 intro S m w u h
 simp only [Rep] at h
 obtain ⟨us, rfl, h2, _⟩ := h
 have := zdx (cs := [qe n.1, qd n.2]) (xs := [.int .u32 n.1, .int .i64 n.2]) rfl h2
 rw [this]
 rfl
theorem netEq (n m : NtP) (w : World) : (Op.equal 82 (netK n) (netK m)).run prog w = .ok (decide (n = m)) w := by
 have h := ze4 (P := prog) 20 10000 qk 82 [.int .u32 n.1, .int .i64 n.2] [.int .u32 m.1, .int .i64 m.2] w qm qm
 have e : eqL [Value.int .u32 n.1, .int .i64 n.2] [.int .u32 m.1, .int .i64 m.2] = decide (n = m) := by
  rw [qbm, zaP, decide_eq_true_eq]
  obtain ⟨a, b⟩ := n
  obtain ⟨c, d⟩ := m
  simp
 rw [e] at h
 exact h
theorem netCK (n : NtP) : CK prog 82 (netK n) := by
 intro b w
 show (Instr.checkKey b (9998 + 1 + 1) _ _).run _ _ = _
 generalize 9998 = k
 simp [Instr.checkKey, run_underlying U82, netK]
 simp [part, zec U80, zec U3, TypeDesc.isRow]
def atN (n : NtP) : List NtP → Nat → Option (Nat × Value)
 | [], _ => none
 | m :: D, i => if n = m then some (i, .bool true) else atN n D (i + 1)
theorem atN_got (n : NtP) : ∀ (D : List NtP) (i : Nat), gotV (.bool false) (atN n D i) = .bool (decide (n ∈ D))
 | [], i => rfl
 | m :: D, i => by
  unfold atN
  by_cases e : n = m
  ·simp [e, gotV]
  ·rw [if_neg e, atN_got n D (i + 1)]
   simp [e]
theorem atN_none {n : NtP} : ∀ {D : List NtP} (i : Nat), n ∉ D → atN n D i = none
 | [], i, h => rfl
 | m :: D, i, h => by
  have h1 : n ≠ m := fun e => h (by simp [e])
  unfold atN
  rw [if_neg h1]
  exact atN_none (i + 1) fun hh => h (by simp [hh])
theorem netAsk (n : NtP) : ∀ (l : List MapEntry) (D : List NtP) (i : Nat) (w : World), (l.map fun e => (e.key, e.val)) = netE D →
 (Instr.findAsking 82 (netK n) l i).run prog w = .ok (atN n D i) w
 | [], D, i, w, h => by
  have hD : D = [] := by simpa [netE] using h.symm
  subst hD
  rfl
 | e :: l, D, i, w, h => by
  match D, h with
  | [], h => simp [netE] at h
  | m :: D, h =>
   simp only [netE, qaF, List.cons.injEq, Prod.mk.injEq] at h
   obtain ⟨⟨h1, h2⟩, h3⟩ := h
   have ih := netAsk n l D (i + 1) w h3
   have hq := netEq n m w
   rw [← h1] at hq
   simp only [Instr.findAsking, qaK, hq, qaD, atN]
   by_cases e : n = m
   ·simp only [e, decide_true, if_true, h2, qaL]
   ·simp only [e, decide_false, qa0, if_false, ih]
theorem netFK (n : NtP) (D : List NtP) : FK prog 82 (netK n) (netE D) (atN n D 0) := by
 intro l w hl
 have h2 := netAsk n l D 0 w hl
 unfold Instr.findKey
 rw [qaK, run_underlying U82]
 simp only [qaD]
 cases l with
 | nil =>
  have hD : D = [] := by simpa [netE] using hl.symm
  subst hD
  rfl
 | cons e l => exact h2
theorem netFN {n : NtP} {D : List NtP} (h : n ∉ D) : FK prog 82 (netK n) (netE D) none := by
 have := netFK n D
 rwa [atN_none 0 h] at this
end Go.Proofs.YtlfjpippeeikdaaGreatDoor
