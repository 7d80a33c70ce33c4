/- The machine over data: maps. -/
import Derived.Test.YtkdfdcodkeclmaaGreatDoorSMa4
import Derived.MapKept
import Derived.Test.YtkdfdcodkeclmaaGreatDoorSCf1
import Derived.Test.YtkdfdcodkeclmaaGreatDoorSCf3
namespace Go.Proofs.YtkdfdcodkeclmaaGreatDoor
open Go.RowKit Go.Sort
set_option linter.unusedVariables false
set_option linter.unusedSimpArgs false
section
variable {P : Program} {d : Option Tmp} {ty : TypeId} {pos : String} {af : Array Edge} {g : Option (Nat × Bool)}
theorem a_makeMap {t : TypeId} (n : Nat) : AOp P ⟨d, .makeMap t none, ty, pos, af, g⟩ [] [(n, .un)] [(n, .live (.map []))] (.mp n) := by
 intro w0 A S m heap w ev hm hR hrd
 have hd : heap n = .un := rd1 hrd
 have hrun : (execOp ev ⟨d, .makeMap t none, ty, pos, af, g⟩).run P w = .ok (.value (.map (some w.heap.size))) (w.alloc (.map #[] 0)) := by
  simp [execOp, Instr.makeMap]
 unfold Out
 rw [hrun]
 have hb : Below w.heap.size w (w.alloc (.map #[] 0)) := (Below.refl _ _).alloc (Nat.le_refl _) _
 have hg := zcz hm hb hd (.map (some w.heap.size))
 obtain ⟨k1, k2⟩ := zcI hm hb n hd (.map (some w.heap.size)) (.map []) (fun b hb => by simp [blk] at hb; omega)
  ⟨w.heap.size, #[], 0, rfl, hm.hB, by simpa using heap_alloc_new w (.map #[] 0), rfl⟩
 exact ⟨S, _, by simp only [Rep]; exact ⟨by simp [setM], _, rfl⟩, k1, k2⟩
def gotV (z : Value) : Option (Nat × Value) → Value
 | some p => p.2
 | none => z
end
end Go.Proofs.YtkdfdcodkeclmaaGreatDoor
/- The machine over data: maps whose keys are nets. -/
namespace Go.Proofs.YtkdfdcodkeclmaaGreatDoor
open Tryz
open Go.RowKit Go.Sort
set_option linter.unusedVariables false
set_option linter.unusedSimpArgs false
set_option maxRecDepth 100000
def CK (P : Program) (kt : TypeId) (kv : Value) : Prop := ∀ (b : Bool) (w : World), (Instr.checkKey b 10000 kt kv).run P w = .ok () w
def FK (P : Program) (kt : TypeId) (kv : Value) (es : List (Value × Value)) (f : Option (Nat × Value)) : Prop :=
 ∀ (l : List MapEntry) (w : World), (l.map fun e => (e.key, e.val)) = es → (Instr.findKey kt kv l).run P w = .ok f w
section
variable {P : Program} {d : Option Tmp} {ty : TypeId} {pos : String} {af : Array Edge} {g : Option (Nat × Bool)}
theorem a_lookupF {t kt et : TypeId} {o : Nat} {kv z r : Value} {X : AV} {f : Option (Nat × Value)} {es : List (Value × Value)} {x y : Operand} (hu : P.underlying t = some (.map kt et)) (hX : ∀ S m w u, Rep S m w X u → u = kv) (hc : CK P kt kv)
  (hz : (P.info? et).map (·.zero) = some (some z)) (hf : FK P kt kv es f) (hr : gotV z f = r) (h1 : r.oneCell' = true) :
  AOp P ⟨d, .lookup t x y false, ty, pos, af, g⟩ [.mp o, X] [(o, .live (.map es))] [] (.p (.v r)) :=
 zbt fun w0 A S m heap w ev hm hR hrd => by
  obtain ⟨q1, q2⟩ := zcn (u := ev x) (v := ev y) hR
  have ho := rd1 hrd
  simp only [Rep] at q1
  obtain ⟨hx, b, hb⟩ := q1
  obtain ⟨v, k1, k2, k3⟩ := hm.live o _ ho
  rw [hx] at k1; cases k1
  obtain ⟨r', arr, ck, e1, g1, g2, g3⟩ := k2
  have hfk := hf arr.toList w g3
  have hck := hc arr.isEmpty w
  have hzv : (zeroValue et).run P w = .ok z w := by
   cases hq : P.info? et with
   | none => simp [hq] at hz
   | some i =>
    simp [hq] at hz
    simp [zeroValue, typeInfo, hq, hz]
  refine ⟨r, ?_, za5 h1⟩
  simp only [execOp, e1, hX _ _ _ _ q2, Instr.lookup, Sem.run_bind, run_underlying hu, Result.andThen_ok, MapKept.run_getObj_map g2, hck, hfk, Sem.run_pure]
  cases f with
  | none => simp only [Sem.run_bind, hzv, Result.andThen_ok, Sem.run_pure, Bool.false_eq_true, if_false]; rw [← hr]; rfl
  | some p => simp only [Sem.run_bind, Result.andThen_ok, Sem.run_pure, Bool.false_eq_true, if_false]; rw [← hr]; rfl
theorem a_mapUpdateF {t kt et : TypeId} {o : Nat} {kv xv : Value} {X : AV} {es : List (Value × Value)} {x y z : Operand} (hu : P.underlying t = some (.map kt et)) (hX : ∀ S m w u, Rep S m w X u → u = kv) (hc : CK P kt kv) (hf : FK P kt kv es none) :
  AOp P ⟨d, .mapUpdate t x y z, ty, pos, af, g⟩ [.mp o, X, .p (.v xv)] [(o, .live (.map es))] [(o, .live (.map (es ++ [(kv, xv)])))] .any := by
 intro w0 A S m heap w ev hm hR hrd
 obtain ⟨h1, h2, h3⟩ := repL3 (u := ev x) (v := ev y) (t := ev z) hR
 have ho := rd1 hrd
 simp only [Rep] at h1
 obtain ⟨hx, r, hmv⟩ := h1
 obtain ⟨v, k1, k2, k3⟩ := hm.live o _ ho
 rw [hx] at k1; cases k1
 obtain ⟨r', arr, ck, e1, g1, g2, g3⟩ := k2
 obtain rfl : r' = r := by rw [hmv] at e1; simpa using e1.symm
 have hfk := hf arr.toList w g3
 have hck := hc false w
 have hlt : r' < w.heap.size := (Array.getElem?_eq_some_iff.1 g2).1
 have hrun : (Instr.mapUpdate t (.map (some r')) kv xv).run P w = .ok () { w with heap := w.heap.setIfInBounds r' (.map (arr.push { key := kv, val := xv, born := ck }) (ck + 1)) } := by
  simp only [Instr.mapUpdate, Sem.run_bind, run_underlying hu, Result.andThen_ok, MapKept.run_getObj_map g2, hck, hfk]
  exact MapKept.run_setObj_map _ g2
 have q5 : ∀ k, k ≠ r' → (w.heap.setIfInBounds r' (.map (arr.push { key := kv, val := xv, born := ck }) (ck + 1)))[k]? = w.heap[k]? := fun k hk => by
  rw [Array.getElem?_setIfInBounds_ne (Ne.symm hk)]
 rw [hmv] at hx
 obtain ⟨q1, q2⟩ := mem_turn hm (w' := { w with heap := w.heap.setIfInBounds r' (.map (arr.push { key := kv, val := xv, born := ck }) (ck + 1)) }) (ob' := .map (es ++ [(kv, xv)])) (v := .map (some r')) ho hx rfl rfl rfl rfl (by simp) q5
  ⟨r', arr.push { key := kv, val := xv, born := ck }, ck + 1, rfl, g1, by simp [hlt], by simp [g3]⟩
 have hex : (execOp ev ⟨d, .mapUpdate t x y z, ty, pos, af, g⟩).run P w = .ok .skip { w with heap := w.heap.setIfInBounds r' (.map (arr.push { key := kv, val := xv, born := ck }) (ck + 1)) } := by
  simp only [execOp, hX _ _ _ _ h2, zbu h3, hmv, Sem.run_bind, hrun, Result.andThen_ok]
  rfl
 unfold Out
 rw [hex]
 exact ⟨S, m, by simp only [Rep], q1, q2⟩
end
def netK (n : NtP) : Value := .agg #[.int .u32 n.1, .int .i64 n.2]
def netE (D : List NtP) : List (Value × Value) := D.map fun n => (netK n, .bool true)
theorem netX (n : NtP) : ∀ S m w u, Rep S m w (.agg [.p (.v (.int .u32 n.1)), .p (.v (.int .i64 n.2))]) u → u = netK n := by
 intro S m w u h
 simp only [Rep] at h
 obtain ⟨us, rfl, h2, _⟩ := h
 have := zcP (cs := [.p (.v (.int .u32 n.1)), .p (.v (.int .i64 n.2))]) (xs := [.int .u32 n.1, .int .i64 n.2]) rfl h2
 rw [this]
 rfl
theorem netEq (n m : NtP) (w : World) : (Op.equal 27 (netK n) (netK m)).run prog w = .ok (decide (n = m)) w := by
 have h := zdX (P := prog) 20 10000 (by omega) 27 [.int .u32 n.1, .int .i64 n.2] [.int .u32 m.1, .int .i64 m.2] w (by kernel_rfl) (by kernel_rfl)
 have e : eqL [Value.int .u32 n.1, .int .i64 n.2] [.int .u32 m.1, .int .i64 m.2] = decide (n = m) := by
  rw [Bool.eq_iff_iff, zbT, decide_eq_true_eq]
  obtain ⟨a, b⟩ := n
  obtain ⟨c, d⟩ := m
  simp
 rw [e] at h
 exact h
theorem netCK (n : NtP) : CK prog 27 (netK n) := by
 intro b w
 show (Instr.checkKey b (9998 + 1 + 1) _ _).run _ _ = _
 generalize 9998 = k
 simp [Instr.checkKey, run_underlying U27, netK]
 simp [part, zea U25, zea U3, TypeDesc.isRow]
def atN (n : NtP) : List NtP → Nat → Option (Nat × Value)
 | [], _ => none
 | m :: D, i => if n = m then some (i, .bool true) else atN n D (i + 1)
theorem atN_got (n : NtP) : ∀ (D : List NtP) (i : Nat), gotV (.bool false) (atN n D i) = .bool (decide (n ∈ D))
 | [], i => rfl
 | m :: D, i => by
  unfold atN
  by_cases e : n = m
  ·simp [e, gotV]
  ·rw [if_neg e, atN_got n D (i + 1)]
   simp [e]
theorem atN_none {n : NtP} : ∀ {D : List NtP} (i : Nat), n ∉ D → atN n D i = none
 | [], i, h => rfl
 | m :: D, i, h => by
  have h1 : n ≠ m := fun e => h (by simp [e])
  unfold atN
  rw [if_neg h1]
  exact atN_none (i + 1) fun hh => h (by simp [hh])
theorem netAsk (n : NtP) : ∀ (l : List MapEntry) (D : List NtP) (i : Nat) (w : World), (l.map fun e => (e.key, e.val)) = netE D →
  (Instr.findAsking 27 (netK n) l i).run prog w = .ok (atN n D i) w
 | [], D, i, w, h => by
  have hD : D = [] := by simpa [netE] using h.symm
  subst hD
  rfl
 | e :: l, D, i, w, h => by
  match D, h with
  | [], h => simp [netE] at h
  | m :: D, h =>
   simp only [netE, List.map_cons, List.cons.injEq, Prod.mk.injEq] at h
   obtain ⟨⟨h1, h2⟩, h3⟩ := h
   have ih := netAsk n l D (i + 1) w h3
   have hq := netEq n m w
   rw [← h1] at hq
   simp only [Instr.findAsking, Sem.run_bind, hq, Result.andThen_ok, atN]
   by_cases e : n = m
   ·simp only [e, decide_true, if_true, h2, Sem.run_pure]
   ·simp only [e, decide_false, Bool.false_eq_true, if_false, ih]
theorem netFK (n : NtP) (D : List NtP) : FK prog 27 (netK n) (netE D) (atN n D 0) := by
 intro l w hl
 have h2 := netAsk n l D 0 w hl
 unfold Instr.findKey
 rw [Sem.run_bind, run_underlying U27]
 simp only [Result.andThen_ok]
 cases l with
 | nil =>
  have hD : D = [] := by simpa [netE] using hl.symm
  subst hD
  rfl
 | cons e l => exact h2
theorem netFN {n : NtP} {D : List NtP} (h : n ∉ D) : FK prog 27 (netK n) (netE D) none := by
 have := netFK n D
 rwa [atN_none 0 h] at this
end Go.Proofs.YtkdfdcodkeclmaaGreatDoor
/- The reference's ConfFault, over data. -/
namespace Go.Proofs.YtkdfdcodkeclmaaGreatDoor
open Tryz
open Go.RowKit Go.Sort
set_option linter.unusedVariables false
set_option linter.unusedSimpArgs false
set_option maxRecDepth 100000
theorem key_ne' : ¬ keyE ⟨#[]⟩ = 0 := by decide +kernel
def lastP (l : List PE) (i : Nat) : ByteArray := if i = 0 then ⟨#[]⟩ else (peG l (i - 1)).key
theorem lastP_le (l : List PE) (i : Nat) (k : ByteArray) (hk : k ≠ ⟨#[]⟩) : leK k (lastP l i) = true ↔ (0 < i ∧ leK k (peG l (i - 1)).key = true) := by
 unfold lastP
 by_cases h : i = 0
 ·rw [if_pos h]
  constructor
  ·intro h1
   unfold leK at h1
   rw [sLt_empty] at h1
   simp at h1
   exact absurd h1 hk
  ·rintro ⟨h1, _⟩
   omega
 ·rw [if_neg h]
  constructor
  ·exact fun h1 => ⟨by omega, h1⟩
  ·exact fun h1 => h1.2
theorem netE_push (X : List NtP) (q : NtP) : netE X ++ [(netK q, Value.bool true)] = netE (X ++ [q]) := by simp [netE]
set_option maxHeartbeats 8000000 in
theorem zaO (c : CF) (ok : c.OK) : Fn prog 24 [.agg c.cells] (.p (.v (.int .i64 (cfE c)))) [] := by
 obtain ⟨key, port, l⟩ := c
 obtain ⟨hn, ok⟩ := ok
 dsimp only at hn ok
 obtain ⟨E, hE⟩ : ∃ E, cfE ⟨key, port, l⟩ = E := ⟨_, rfl⟩
 rw [hE]
 unfold cfE at hE
 dsimp only at hE
 have hK := zck key
 show Fn prog _ [.agg (cfC key port l.length (l.flatMap PE.pv))] _ _
 generalize keyE key = k1 at *
 refine fnI fun w0 A => ?_
 refine G [5] ?_
 by_cases hk : key ≠ ⟨#[]⟩ ∧ k1 ≠ 0
 ·rw [if_pos hk] at hE
  subst hE
  refine G [5] ?_
  refine zaa (zae (c := true) (by simp [hk.1])) rfl rfl ?_
  refine G [3] ?_
  (first | refine za1 rfl ?_ | refine zcq (fun n => 16 + 1000 * n) (hK) rfl rfl func55 rfl rfl (by first | rfl | simp [AV.noSl, AV.noSlL, AObj.noSl, PV.isV, zcK]) (by first | rfl | simp [AV.noSl, AV.noSlL, AObj.noSl, PV.isV, zcK]) rfl rfl rfl (by first | exact trivial | exact ⟨rfl, trivial⟩ | exact ⟨rfl, rfl, trivial⟩ | exact ⟨rfl, rfl, rfl, rfl, rfl, trivial⟩) rfl rfl rfl ?_)
  refine zaa (zao (c := true) (by simp [hk.2])) rfl rfl ?_
  refine G [7] ?_
  refine cV hK ?_
  refine G [3, 9, 0] ?_
  exact yE
 rw [if_neg hk] at hE
 refine G [2] ?_
 refine awp_joinS (St.of [(1, .ref 1 0)] [(1, .box 24 (cfC key port l.length (l.flatMap PE.pv)))]) ?_ ?_
 ·by_cases hk0 : key = ⟨#[]⟩
  ·skip
   refine G [3] ?_
   refine zaa (zae (c := false) (by simp [hk0])) rfl rfl ?_
   refine G [9, 9, 0] ?_
   exact zak id _ _ (by repeat (first | exact trivial | refine ⟨⟨rfl, rfl⟩, ?_⟩)) (by repeat (first | exact trivial | refine ⟨⟨rfl, rfl⟩, ?_⟩)) rfl
  ·have hk1 : k1 = 0 := Decidable.not_not.1 fun e => hk ⟨hk0, e⟩
   skip
   refine G [3] ?_
   refine zaa (zae (c := true) (by simp [hk0])) rfl rfl ?_
   refine G [3] ?_
   (first | refine za1 rfl ?_ | refine zcq (fun n => 16 + 1000 * n) (hK) rfl rfl func55 rfl rfl (by first | rfl | simp [AV.noSl, AV.noSlL, AObj.noSl, PV.isV, zcK]) (by first | rfl | simp [AV.noSl, AV.noSlL, AObj.noSl, PV.isV, zcK]) rfl rfl rfl (by first | exact trivial | exact ⟨rfl, trivial⟩ | exact ⟨rfl, rfl, trivial⟩ | exact ⟨rfl, rfl, rfl, rfl, rfl, trivial⟩) rfl rfl rfl ?_)
   refine zaa (zao (c := false) (by simp [hk1])) rfl rfl ?_
   refine G [4, 9, 0] ?_
   exact zak id _ _ (by repeat (first | exact trivial | refine ⟨⟨rfl, rfl⟩, ?_⟩)) (by repeat (first | exact trivial | refine ⟨⟨rfl, rfl⟩, ?_⟩)) rfl
 clear hk hK
 refine G [10, 2, 1, 9, 0] ?_
 refine zab _ rfl (fun h => ?_) (fun h => ?_)
 ·have h5 : port < 0 ∨ 65535 < port := by simpa using h
  rw [if_pos h5] at hE
  subst hE
  refine G [5, 9, 0] ?_
  exact yE
 have h5 : ¬ (port < 0 ∨ 65535 < port) := by simp at h; omega
 clear h
 rw [if_neg h5] at hE
 refine G [6] ?_
 refine zaa (zaL U22) rfl rfl ?_
 refine G [2, 9, 0] ?_
 refine zab _ rfl (fun h => ?_) (fun h => ?_)
 ·have h6 : 6 < l.length := by simp at h; omega
  rw [if_pos h6] at hE
  subst hE
  refine G [5, 9, 0] ?_
  exact yE
 have h6 : ¬ 6 < l.length := by simp at h; omega
 clear h
 rw [if_neg h6] at hE
 refine G [3] ?_
 refine zac (a_makeMap 34) rfl rfl ⟨rfl, trivial⟩ ?_
 refine G [11] ?_
 refine zaa (zaL U22) rfl rfl ?_
 refine G [3] ?_
 refine zal (fun m st => ∃ i : Nat, m + i = l.length ∧ (∀ j, j < i → zdi key l j = 0) ∧ st = St.of [(1, .ref 1 0), (3, .mp 34), (4, .p (.v (.string (lastP l i)))), (36, .p (.sl l.length 5 (l.flatMap PE.pv))), (37, .p (.v (.int .i64 l.length))), (38, .p (.v (.int .i64 i)))] [(1, .box 24 (cfC key port l.length (l.flatMap PE.pv))), (34, .map (netE (zcc l i)))]) l.length ?_ ?_
 ·refine ⟨_, zak id _ _ ?_ ?_ rfl, 0, by omega, by omega, rfl⟩
  ·(repeat (first | exact trivial | (refine ⟨⟨(by first | rfl | (simp; done) | (simp; omega)), rfl⟩, ?_⟩)))
  ·exact ⟨⟨rfl, rfl⟩, ⟨rfl, rfl⟩, trivial⟩
 rintro m st ⟨i, hi, hf, rfl⟩
 refine G [5] ?_
 refine zab _ rfl (fun h => ?_) (fun h => ?_)
 ·have hlt : i < l.length := by simp at h; omega
  clear h
  obtain ⟨p, hp⟩ : ∃ p, l[i]? = some p := ⟨l[i], List.getElem?_eq_getElem hlt⟩
  have hch := zav (f := PE.pv) (k := 5) (fun _ => rfl) hp
  have hle := zau (f := PE.pv) (k := 5) (fun _ => rfl) hlt
  obtain ⟨hok, hpl⟩ := ok p (List.mem_of_getElem? hp)
  have hC := refPeer_s p hok
  have hhit := @zfQ (zdi key l) i l.length hf hlt
  have hst : zdi key l i = if peE p ≠ 0 then peE p else if (0 < i ∧ leK p.key (peG l (i - 1)).key = true) ∨ p.key = key then 6 else if dupN (zcc l i) p.nets = true then 6 else 0 := by unfold zdi; rw [zbY hp]
  have hgood := @zfg p
  have hnx := zeM hp
  have hlN : lastP l (i + 1) = p.key := by unfold lastP; rw [if_neg (by omega), Nat.add_sub_cancel, zbY hp]
  generalize hL : l.flatMap PE.pv = L at *
  generalize peE p = e at *
  refine G [5] ?_
  refine zaa (zad U22 sz60 (by omega) (by omega) rfl) rfl rfl ?_
  refine zaa (zaq U60 rfl sz60 (by first | omega | (simp; done) | (simp; omega)) (hch)) rfl rfl ?_
  refine zac (zaV 6 zr60 rfl) rfl rfl ⟨rfl, trivial⟩ ?_
  refine zac (zap (Y := .agg p.cells) sz60 rfl rfl (Nat.eq_of_beq_eq_true rfl)) rfl rfl ⟨rfl, trivial⟩ ?_
  refine G [4] ?_
  refine zac (zbJ U60 rfl sz60 (by first | exact Nat.le_of_ble_eq_true rfl | omega | (simp only [AV.cells, List.length_map]; omega)) (show _ = p.cells from rfl)) rfl rfl ⟨rfl, trivial⟩ ?_
  refine cK hC ?_
  refine G [7, 9, 0] ?_
  refine zab _ rfl (fun h => ?_) (fun h => ?_)
  ·have h7 : e ≠ 0 := by simpa using h
   rw [if_pos h7] at hst
   rw [hhit (by rw [hst]; exact h7), hst] at hE
   subst hE
   refine G [6, 9, 0] ?_
   exact yE
  have h7 : e = 0 := by simpa using h
  clear h
  rw [if_neg (by simp [h7])] at hst
  obtain ⟨hn8, hkey⟩ := hgood h7
  have hkne : p.key ≠ ⟨#[]⟩ := fun e => key_ne' (by rw [e] at hkey; exact hkey)
  simp only [← lastP_le l i p.key hkne] at hst
  generalize hLK : lastP l i = lk at *
  by_cases hlk : leK p.key lk = true
  ·rw [if_pos (.inl hlk)] at hst
   rw [hhit (by rw [hst]; decide), hst] at hE
   subst hE
   refine G [7] ?_
   refine zaa (zeX (c := true) (hlk)) rfl rfl ?_
   refine G [14, 9, 0] ?_
   exact yE
  by_cases hkk : p.key = key
  ·rw [if_pos (.inr hkk)] at hst
   rw [hhit (by rw [hst]; decide), hst] at hE
   subst hE
   refine G [7] ?_
   refine zaa (zeX (c := false) (by simpa using hlk)) rfl rfl ?_
   refine G [5] ?_
   refine zaa (zah (c := true) (decide_eq_true hkk)) rfl rfl ?_
   refine G [8, 9, 0] ?_
   exact yE
  rw [if_neg (by simp [hlk, hkk])] at hst
  refine G [7] ?_
  refine zaa (zeX (c := false) (by simpa using hlk)) rfl rfl ?_
  refine G [5] ?_
  refine zaa (zah (c := false) (decide_eq_false hkk)) rfl rfl ?_
  refine G [3] ?_
  obtain ⟨DD, hDD⟩ : ∃ b, dupN (zcc l i) p.nets = b := ⟨_, rfl⟩
  rw [hDD] at hst
  refine G [11] ?_
  refine zaa (zaL U58) rfl rfl ?_
  refine G [3] ?_
  refine zal (fun m' st => ∃ j : Nat, m' + j = p.nets.length ∧ ∃ X : List NtP, DD = dupN X (p.nets.drop j) ∧ X = zcc l i ++ p.nets.take j ∧ st = St.of [(1, .ref 1 0), (3, .mp 34), (4, .p (.v (.string p.key))), (36, .p (.sl l.length 5 L)), (37, .p (.v (.int .i64 l.length))), (38, .p (.v (.int .i64 i))), (61, .p (.sl p.nets.length 2 (p.nets.flatMap ntC))), (62, .p (.v (.int .i64 p.nets.length))), (63, .p (.v (.int .i64 j)))] [(1, .box 24 (cfC key port l.length L)), (34, .map (netE X))]) p.nets.length ?_ ?_
  ·refine ⟨_, zak id _ _ ?_ ?_ rfl, 0, by omega, zcc l i, by rw [List.drop_zero]; exact hDD.symm, by simp, rfl⟩
   ·(repeat (first | exact trivial | (refine ⟨⟨(by first | rfl | (simp; done) | (simp; omega)), rfl⟩, ?_⟩)))
   ·exact ⟨⟨rfl, rfl⟩, ⟨rfl, rfl⟩, trivial⟩
  rintro m' st ⟨j, hj, X, hdp, hXe, rfl⟩
  refine G [5] ?_
  refine zab _ rfl (fun h => ?_) (fun h => ?_)
  ·have hlj : j < p.nets.length := by simp at h; omega
   clear h
   obtain ⟨q, hq⟩ : ∃ q, p.nets[j]? = some q := ⟨p.nets[j], List.getElem?_eq_getElem hlj⟩
   have hch2 := zav (f := ntC) (k := 2) (fun _ => rfl) hq
   have hle2 := zau (f := ntC) (k := 2) (fun _ => rfl) hlj
   have hdr : p.nets.drop j = q :: p.nets.drop (j + 1) := by
    obtain ⟨q1, q2⟩ := List.getElem?_eq_some_iff.1 hq
    rw [List.drop_eq_getElem_cons q1, q2]
   have htk : p.nets.take (j + 1) = p.nets.take j ++ [q] := by
    obtain ⟨q1, q2⟩ := List.getElem?_eq_some_iff.1 hq
    rw [List.take_succ_eq_append_getElem q1, q2]
   rw [hdr, dupN] at hdp
   obtain ⟨qa, qb⟩ := q
   have hpush := netE_push X (qa, qb)
   have hgot := atN_got (qa, qb) X 0
   generalize hNL : p.nets.flatMap ntC = NL at *
   refine G [5] ?_
   refine zaa (zad U58 sz27 (by omega) (by omega) rfl) rfl rfl ?_
   refine zaa (zaq U27 rfl sz27 (by first | omega | (simp; done) | (simp; omega)) (hch2)) rfl rfl ?_
   refine zac (zaV 9 zr27 rfl) rfl rfl ⟨rfl, trivial⟩ ?_
   refine zac (zap (Y := .agg [.p (.v (.int .u32 qa)), .p (.v (.int .i64 qb))]) sz27 rfl rfl (Nat.eq_of_beq_eq_true rfl)) rfl rfl ⟨rfl, trivial⟩ ?_
   refine zaf ?_
   by_cases hm : (qa, qb) ∈ X
   ·rw [show (decide ((qa, qb) ∈ X) || dupN (X ++ [(qa, qb)]) (p.nets.drop (j + 1))) = true by simp [hm]] at hdp
    rw [if_pos hdp] at hst
    rw [hhit (by rw [hst]; decide), hst] at hE
    subst hE
    rw [decide_eq_true hm] at hgot
    refine G [5] ?_
    refine zac (a_lookupF underlying88 (netX (qa, qb)) (netCK _) zr4 (netFK (qa, qb) X) hgot rfl) rfl rfl ⟨rfl, trivial⟩ ?_
    refine G [6] ?_
    (repeat (first | refine zag ?_ | refine zaS ?_ | refine zaC ?_ | refine za2 ?_ | refine zbs ?_ | refine zaH ?_ | refine zcZ ?_ | refine zdl ?_ | refine zf7 ?_ | refine zfL ?_ | refine zer ?_ | refine zf6 rfl ?_))
    exact yE
   ·rw [show (decide ((qa, qb) ∈ X) || dupN (X ++ [(qa, qb)]) (p.nets.drop (j + 1))) = dupN (X ++ [(qa, qb)]) (p.nets.drop (j + 1)) by simp [hm]] at hdp
    rw [decide_eq_false hm] at hgot
    refine G [5] ?_
    refine zac (a_lookupF underlying88 (netX (qa, qb)) (netCK _) zr4 (netFK (qa, qb) X) hgot rfl) rfl rfl ⟨rfl, trivial⟩ ?_
    refine G [6] ?_
    refine zac (a_mapUpdateF underlying88 (netX (qa, qb)) (netCK _) (netFN hm)) rfl rfl ⟨rfl, trivial⟩ ?_
    refine G [2] ?_
    refine zaa (zas (by first | exact IntWalk.i64_in _ (by omega) | rfl)) rfl rfl ?_
    refine G [2, 9, 0] ?_
    refine ⟨m' - 1, by omega, _, zak id _ _ ?_ ?_ rfl, j + 1, by omega, X ++ [(qa, qb)], hdp, by rw [htk, ← List.append_assoc, hXe], rfl⟩
    ·(repeat (first | exact trivial | (refine ⟨⟨(by first | rfl | (simp; done) | (simp; omega)), rfl⟩, ?_⟩)))
    ·exact ⟨⟨rfl, rfl⟩, ⟨congrArg (fun x => Slot.live (AObj.map x)) hpush, rfl⟩, trivial⟩
  have hge : j = p.nets.length := by simp at h; omega
  clear h
  subst hge
  rw [List.take_length] at hXe
  have hz : dupN X (p.nets.drop p.nets.length) = false := by rw [List.drop_length]; rfl
  rw [hz] at hdp
  rw [if_neg (by rw [hdp]; decide)] at hst
  refine G [2] ?_
  refine zaa (zas (by first | exact IntWalk.i64_in _ (by omega) | rfl)) rfl rfl ?_
  refine G [2, 9, 0] ?_
  refine ⟨m - 1, by omega, _, zak id _ _ ?_ ?_ rfl, i + 1, by omega, fun q hq => ?_, rfl⟩
  ·refine ⟨⟨rfl, rfl⟩, ⟨rfl, rfl⟩, ⟨?_, rfl⟩, ⟨rfl, rfl⟩, ⟨rfl, rfl⟩, ⟨rfl, rfl⟩, trivial⟩
   rw [hlN]
   rfl
  ·refine ⟨⟨rfl, rfl⟩, ⟨?_, rfl⟩, trivial⟩
   rw [hnx, ← hXe]
   rfl
  ·by_cases eq : q = i
   ·rw [eq]; exact hst
   ·exact hf q (by omega)
 have hge : i = l.length := by simp at h; omega
 clear h
 subst hge
 rw [zgq hf] at hE
 subst hE
 refine G [6, 9, 0] ?_
 exact yE
end Go.Proofs.YtkdfdcodkeclmaaGreatDoor
