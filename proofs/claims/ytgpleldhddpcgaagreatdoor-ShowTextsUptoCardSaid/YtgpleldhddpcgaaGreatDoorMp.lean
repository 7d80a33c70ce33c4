/- The machine over data: maps. -/
import Derived.Test.YtgpleldhddpcgaaGreatDoorMa4
import Derived.MapKept
namespace Go.Proofs.YtgpleldhddpcgaaGreatDoor
open Go.RowKit Go.Sort
set_option linter.unusedVariables false
set_option linter.unusedSimpArgs false

/-- where a key stands, and what stands there -/
def findP (d : TypeDesc) (k : Value) : List (Value × Value) → Nat → Option (Option (Nat × Value))
  | [], _ => some none
  | e :: l, i => match Instr.sameNow d k e.1 with
    | some true => some (some (i, e.2))
    | some false => findP d k l (i + 1)
    | none => none
theorem findNow_P (d : TypeDesc) (k : Value) : ∀ (l : List MapEntry) (i : Nat), Instr.findNow d k l i = findP d k (l.map fun e => (e.key, e.val)) i
  | [], _ => rfl
  | e :: l, i => by
    simp only [Instr.findNow, findP, List.map_cons]
    rw [findNow_P d k l (i + 1)]
    rfl
def plainKey : TypeDesc → Bool
  | .int _ => true
  | .bool => true
  | .string => true
  | _ => false
theorem checkKey_plain {P : Program} {t : TypeId} {kd : TypeDesc} (hk : P.underlying t = some kd) (hp : plainKey kd = true) (b : Bool) (v : Value) (w : World) : (Instr.checkKey b 10000 t v).run P w = .ok () w := by
  show (Instr.checkKey b (9999 + 1) t v).run P w = .ok () w
  generalize 9999 = d
  cases kd <;> simp only [plainKey, Bool.false_eq_true] at hp <;> simp [Instr.checkKey, run_underlying hk]

section
variable {P : Program} {d : Option Tmp} {ty : TypeId} {pos : String} {af : Array Edge} {g : Option (Nat × Bool)}
theorem a_makeMap {t : TypeId} (n : Nat) : AOp P ⟨d, .makeMap t none, ty, pos, af, g⟩ [] [(n, .un)] [(n, .live (.map []))] (.mp n) := by
  intro w0 A S m heap w ev hm hR hrd
  have hd : heap n = .un := rd1 hrd
  have hrun : (execOp ev ⟨d, .makeMap t none, ty, pos, af, g⟩).run P w = .ok (.value (.map (some w.heap.size))) (w.alloc (.map #[] 0)) := by
    simp [execOp, Instr.makeMap]
  unfold Out
  rw [hrun]
  have hb : Below w.heap.size w (w.alloc (.map #[] 0)) := (Below.refl _ _).alloc (Nat.le_refl _) _
  have hg := grow_new hm hb hd (.map (some w.heap.size))
  obtain ⟨k1, k2⟩ := mem_new hm hb n hd (.map (some w.heap.size)) (.map []) (fun b hb => by simp [blk] at hb; omega)
    ⟨w.heap.size, #[], 0, rfl, hm.hB, by simpa using heap_alloc_new w (.map #[] 0), rfl⟩
  exact ⟨S, _, by simp only [Rep]; exact ⟨by simp [setM], _, rfl⟩, k1, k2⟩

/-- a key that is not there yet -/
theorem mapSet_new {t kt et : TypeId} {kd : TypeDesc} {o : Nat} {kv xv : Value} {es : List (Value × Value)} (hu : P.underlying t = some (.map kt et)) (hk : P.underlying kt = some kd) (hp : plainKey kd = true) (hf : findP kd kv es 0 = some none)
    {w0 : World} {A S : Nat → Prop} {m : Nat → Option Value} {heap : Nat → Slot} {w : World} (hm : Mem w0 A S m heap w) (ho : heap o = .live (.map es)) {mv : Value} (hv : Rep S m w (.mp o) mv) :
    ∃ w', (Instr.mapUpdate t mv kv xv).run P w = .ok () w' ∧ Mem w0 A S m (updL heap [(o, .live (.map (es ++ [(kv, xv)])))]) w' ∧ Grow S m w S m w' := by
  simp only [Rep] at hv
  obtain ⟨hx, r, rfl⟩ := hv
  obtain ⟨v, k1, k2, k3⟩ := hm.live o _ ho
  rw [hx] at k1; cases k1
  obtain ⟨r', arr, ck, e1, g1, g2, g3⟩ := k2
  obtain rfl : r' = r := by simpa using e1.symm
  have hnow : Instr.findNow kd kv arr.toList 0 = some none := by rw [findNow_P, g3]; exact hf
  have hfk := MapKept.run_findKey (w := w) hk hnow
  have hck := checkKey_plain hk hp false kv w
  have hlt : r' < w.heap.size := (Array.getElem?_eq_some_iff.1 g2).1
  refine ⟨{ w with heap := w.heap.setIfInBounds r' (.map (arr.push { key := kv, val := xv, born := ck }) (ck + 1)) }, ?_, ?_⟩
  · simp only [Instr.mapUpdate, Sem.run_bind, run_underlying hu, Result.andThen_ok, MapKept.run_getObj_map g2, hck, hfk]
    exact MapKept.run_setObj_map _ g2
  · have q5 : ∀ k, k ≠ r' → (w.heap.setIfInBounds r' (.map (arr.push { key := kv, val := xv, born := ck }) (ck + 1)))[k]? = w.heap[k]? := fun k hk => by
      rw [Array.getElem?_setIfInBounds_ne (Ne.symm hk)]
    exact mem_turn hm (w' := { w with heap := w.heap.setIfInBounds r' (.map (arr.push { key := kv, val := xv, born := ck }) (ck + 1)) }) (ob' := .map (es ++ [(kv, xv)])) (v := .map (some r')) ho hx rfl rfl rfl rfl (by simp) q5
      ⟨r', arr.push { key := kv, val := xv, born := ck }, ck + 1, rfl, g1, by simp [hlt], by simp [g3]⟩
theorem a_insert {t kt et : TypeId} {kd : TypeDesc} {o : Nat} {kv xv : Value} {es : List (Value × Value)} {x y z : Operand} (hu : P.underlying t = some (.map kt et)) (hk : P.underlying kt = some kd) (hp : plainKey kd = true) (hf : findP kd kv es 0 = some none) :
    AOp P ⟨d, .insert t x y z, ty, pos, af, g⟩ [.mp o, .p (.v kv), .p (.v xv)] [(o, .live (.map es))] [(o, .live (.map (es ++ [(kv, xv)])))] .any := by
  intro w0 A S m heap w ev hm hR hrd
  obtain ⟨h1, h2, h3⟩ := repL3 (u := ev x) (v := ev y) (t := ev z) hR
  obtain ⟨w', hrun, q1, q2⟩ := mapSet_new (xv := xv) hu hk hp hf hm (rd1 hrd) h1
  have hex : (execOp ev ⟨d, .insert t x y z, ty, pos, af, g⟩).run P w = .ok .skip w' := by
    simp only [execOp, rep_v h2, rep_v h3, Sem.run_bind, hrun, Result.andThen_ok]
    rfl
  unfold Out
  rw [hex]
  exact ⟨S, m, by simp only [Rep], q1, q2⟩
theorem a_mapUpdate {t kt et : TypeId} {kd : TypeDesc} {o : Nat} {kv xv : Value} {es : List (Value × Value)} {x y z : Operand} (hu : P.underlying t = some (.map kt et)) (hk : P.underlying kt = some kd) (hp : plainKey kd = true) (hf : findP kd kv es 0 = some none) :
    AOp P ⟨d, .mapUpdate t x y z, ty, pos, af, g⟩ [.mp o, .p (.v kv), .p (.v xv)] [(o, .live (.map es))] [(o, .live (.map (es ++ [(kv, xv)])))] .any := by
  intro w0 A S m heap w ev hm hR hrd
  obtain ⟨h1, h2, h3⟩ := repL3 (u := ev x) (v := ev y) (t := ev z) hR
  obtain ⟨w', hrun, q1, q2⟩ := mapSet_new (xv := xv) hu hk hp hf hm (rd1 hrd) h1
  have hex : (execOp ev ⟨d, .mapUpdate t x y z, ty, pos, af, g⟩).run P w = .ok .skip w' := by
    simp only [execOp, rep_v h2, rep_v h3, Sem.run_bind, hrun, Result.andThen_ok]
    rfl
  unfold Out
  rw [hex]
  exact ⟨S, m, by simp only [Rep], q1, q2⟩

/-- a key that is there already -/
theorem mapSet_old {t kt et : TypeId} {kd : TypeDesc} {o i : Nat} {kv xv ov : Value} {es : List (Value × Value)} (hu : P.underlying t = some (.map kt et)) (hk : P.underlying kt = some kd) (hp : plainKey kd = true) (hq : MapKept.IsKey kd kv) (hf : findP kd kv es 0 = some (some (i, ov))) (hi : es[i]? = some (kv, ov))
    {w0 : World} {A S : Nat → Prop} {m : Nat → Option Value} {heap : Nat → Slot} {w : World} (hm : Mem w0 A S m heap w) (ho : heap o = .live (.map es)) {mv : Value} (hv : Rep S m w (.mp o) mv) :
    ∃ w', (Instr.mapUpdate t mv kv xv).run P w = .ok () w' ∧ Mem w0 A S m (updL heap [(o, .live (.map (es.set i (kv, xv))))]) w' ∧ Grow S m w S m w' := by
  simp only [Rep] at hv
  obtain ⟨hx, r, rfl⟩ := hv
  obtain ⟨v, k1, k2, k3⟩ := hm.live o _ ho
  rw [hx] at k1; cases k1
  obtain ⟨r', arr, ck, e1, g1, g2, g3⟩ := k2
  obtain rfl : r' = r := by simpa using e1.symm
  have hnow : Instr.findNow kd kv arr.toList 0 = some (some (i, ov)) := by rw [findNow_P, g3]; exact hf
  have hfk := MapKept.run_findKey (w := w) hk hnow
  have hck := checkKey_plain hk hp false kv w
  have hlt : r' < w.heap.size := (Array.getElem?_eq_some_iff.1 g2).1
  have hai : ∃ e, arr[i]? = some e ∧ e.key = kv := by
    rw [← g3, List.getElem?_map] at hi
    simp only [Option.map_eq_some_iff, Prod.mk.injEq] at hi
    obtain ⟨e, h1, h2, h3⟩ := hi
    exact ⟨e, by rw [← Array.getElem?_toList]; exact h1, h2⟩
  obtain ⟨e, he, hek⟩ := hai
  have hst := MapKept.run_keyThatStays (P := P) (w := w) hq
  have hnew : (arr.modify i fun e => { e with key := kv, val := xv }).toList.map (fun e => (e.key, e.val)) = es.set i (kv, xv) := by
    rw [← g3]
    apply List.ext_getElem?
    intro j
    rw [List.getElem?_map, List.getElem?_set, Array.getElem?_toList, Array.getElem?_modify]
    by_cases hj : i = j
    · subst hj
      have hlt2 : i < arr.size := (Array.getElem?_eq_some_iff.1 he).1
      simp [he, hlt2]
    · simp [hj]
  refine ⟨{ w with heap := w.heap.setIfInBounds r' (.map (arr.modify i fun e => { e with key := kv, val := xv }) ck) }, ?_, ?_⟩
  · simp only [Instr.mapUpdate, Sem.run_bind, run_underlying hu, Result.andThen_ok, MapKept.run_getObj_map g2, hck, hfk, he, Option.map_some, Option.getD_some, hek, hst]
    exact MapKept.run_setObj_map _ g2
  · have q5 : ∀ k, k ≠ r' → (w.heap.setIfInBounds r' (.map (arr.modify i fun e => { e with key := kv, val := xv }) ck))[k]? = w.heap[k]? := fun k hk => by
      rw [Array.getElem?_setIfInBounds_ne (Ne.symm hk)]
    exact mem_turn hm (w' := { w with heap := w.heap.setIfInBounds r' (.map (arr.modify i fun e => { e with key := kv, val := xv }) ck) }) (ob' := .map (es.set i (kv, xv))) (v := .map (some r')) ho hx rfl rfl rfl rfl (by simp) q5
      ⟨r', arr.modify i fun e => { e with key := kv, val := xv }, ck, rfl, g1, by simp [hlt], hnew⟩
theorem a_mapUpdateO {t kt et : TypeId} {kd : TypeDesc} {o i : Nat} {kv xv ov : Value} {es : List (Value × Value)} {x y z : Operand} (hu : P.underlying t = some (.map kt et)) (hk : P.underlying kt = some kd) (hp : plainKey kd = true) (hq : MapKept.IsKey kd kv) (hf : findP kd kv es 0 = some (some (i, ov))) (hi : es[i]? = some (kv, ov)) :
    AOp P ⟨d, .mapUpdate t x y z, ty, pos, af, g⟩ [.mp o, .p (.v kv), .p (.v xv)] [(o, .live (.map es))] [(o, .live (.map (es.set i (kv, xv))))] .any := by
  intro w0 A S m heap w ev hm hR hrd
  obtain ⟨h1, h2, h3⟩ := repL3 (u := ev x) (v := ev y) (t := ev z) hR
  obtain ⟨w', hrun, q1, q2⟩ := mapSet_old (xv := xv) hu hk hp hq hf hi hm (rd1 hrd) h1
  have hex : (execOp ev ⟨d, .mapUpdate t x y z, ty, pos, af, g⟩).run P w = .ok .skip w' := by
    simp only [execOp, rep_v h2, rep_v h3, Sem.run_bind, hrun, Result.andThen_ok]
    rfl
  unfold Out
  rw [hex]
  exact ⟨S, m, by simp only [Rep], q1, q2⟩

def gotV (z : Value) : Option (Nat × Value) → Value
  | some p => p.2
  | none => z
theorem a_lookup {t kt et : TypeId} {kd : TypeDesc} {o : Nat} {kv z r : Value} {f : Option (Nat × Value)} {es : List (Value × Value)} {x y : Operand} (hu : P.underlying t = some (.map kt et)) (hk : P.underlying kt = some kd) (hp : plainKey kd = true)
    (hz : (P.info? et).map (·.zero) = some (some z)) (hf : findP kd kv es 0 = some f) (hr : gotV z f = r) (h1 : r.oneCell' = true) :
    AOp P ⟨d, .lookup t x y false, ty, pos, af, g⟩ [.mp o, .p (.v kv)] [(o, .live (.map es))] [] (.p (.v r)) :=
  aop_read fun w0 A S m heap w ev hm hR hrd => by
    obtain ⟨q1, q2⟩ := repL2 (u := ev x) (v := ev y) hR
    have ho := rd1 hrd
    simp only [Rep] at q1
    obtain ⟨hx, b, hb⟩ := q1
    obtain ⟨v, k1, k2, k3⟩ := hm.live o _ ho
    rw [hx] at k1; cases k1
    obtain ⟨r', arr, ck, e1, g1, g2, g3⟩ := k2
    have hnow : Instr.findNow kd kv arr.toList 0 = some f := by rw [findNow_P, g3]; exact hf
    have hfk := MapKept.run_findKey (w := w) hk hnow
    have hck := checkKey_plain hk hp arr.isEmpty kv w
    have hzv : (zeroValue et).run P w = .ok z w := by
      cases hq : P.info? et with
      | none => simp [hq] at hz
      | some i =>
        simp [hq] at hz
        simp [zeroValue, typeInfo, hq, hz]
    refine ⟨r, ?_, rep_mk h1⟩
    simp only [execOp, e1, rep_v q2, Instr.lookup, Sem.run_bind, run_underlying hu, Result.andThen_ok, MapKept.run_getObj_map g2, hck, hfk, Sem.run_pure]
    cases f with
    | none => simp only [Sem.run_bind, hzv, Result.andThen_ok, Sem.run_pure, Bool.false_eq_true, if_false]; rw [← hr]; rfl
    | some p => simp only [Sem.run_bind, Result.andThen_ok, Sem.run_pure, Bool.false_eq_true, if_false]; rw [← hr]; rfl
end
end Go.Proofs.YtgpleldhddpcgaaGreatDoor
