/- Rows of data and of own things, further: made by literals, appended to, cleared, seen by callees; names turned. -/
import Derived.Test.YtlfjpippeeikdaaGreatDoorSRa
set_option linter.all false
namespace Go.Proofs.YtlfjpippeeikdaaGreatDoor
open Go.RowKit Go.Sort
section
variable {P : Program} {d : Option Tmp} {ty : TypeId} {pos : String} {af : Array Edge} {g : Option (Nat × Bool)}
theorem zd3 {t e : TypeId} {len size : Nat} (d' : Nat) {parts : Array (Nat × Operand)} {z0 : Array Value} {xs es : List AV} (hu : P.underlying t = some (.slice e)) (hi : (P.info? e).map (·.size) = some size) (hz : (P.info? e).map (fun i => i.zero.map Value.cells) = some (some z0))
 (hl : len * size ≤ 2 ^ 24) (hl0 : 0 < len * size) (h1 : z0.toList.all (fun x => x.oneCell') = true)
 (hf : zf9 (fun i => some (i * size, size)) (((List.range (len * size)).map fun i => (AV.p (.v (z0.getD (i % z0.size) default))))) ((parts.toList.map Prod.fst).zip xs) = some es) (hzs : 0 < z0.size) :
 AOp P ⟨d, .buildSlice t len parts, ty, pos, af, g⟩ xs [(d', .un)] [(d', .live (.box e es))] (.psl d' 0 len size) := by
 intro w0 A S mm heap w ev hm hR hrd
 have hd' : heap d' = .un := rd1 hrd
 have hr' : RepL S mm w xs ((parts.toList.map Prod.snd).map ev) := by simpa [Op.operands] using hR
 obtain ⟨k1, k2⟩ := zel hr'
 have h1' : ∀ x ∈ z0.toList, x.oneCell' = true := by simpa only [qbd] using h1
 have hget : ∀ i, (z0[i % z0.size]!).oneCell' = true ∧ z0[i % z0.size]! = z0.getD (i % z0.size) default := fun i => by
  have hlt := Nat.mod_lt i hzs
  rw [getElem!_pos z0 _ hlt]
  refine ⟨h1' _ qz, ?_⟩
  simp [qbl, hlt]
 have c1 : RepL S mm w ((List.range (len * size)).map fun i => (AV.p (.v (z0.getD (i % z0.size) default)))) ((Array.range (len * size)).map (z0[· % z0.size]!)).toList := by
  have : ((Array.range (len * size)).map (z0[· % z0.size]!)).toList = (List.range (len * size)).map (fun i => z0[i % z0.size]!) := by simp [Array.toList_range]
  rw [this]
  generalize List.range (len * size) = l
  induction l with
  | nil => simp [RepL]
  | cons i l ih =>
   simp only [qaF, RepL, Rep, PRep]
   exact ⟨_, _, rfl, ⟨(hget i).2, (hget i).2 ▸ (hget i).1⟩, ih⟩
 have c2 : ∀ x ∈ ((Array.range (len * size)).map (z0[· % z0.size]!)).toList, x.oneCell' = true := by
  intro x hx
  simp only [qbR, qaJ] at hx
  obtain ⟨i, _, rfl⟩ := hx
  exact (hget i).1
 obtain ⟨us', e1, e2, e3⟩ := zfz c1 c2 k1 k2 hf
 have hex : (execOp ev ⟨d, .buildSlice t len parts, ty, pos, af, g⟩).run P w = .ok (.value (.slice (some ⟨w.heap.size, 0, none⟩) len len)) (w.alloc (.cells us' e)) := by
  cases hq : P.info? e with
  | none => simp [hq] at hi
  | some i =>
   simp [hq] at hi hz
   obtain ⟨z, hz1, hz2⟩ := hz
   have e1' : Instr.fill (fun i => some (i * size, size)) ((Array.range (len * size)).map (z0[· % z0.size]!)) (List.map (fun p => (p.fst, ev p.snd)) parts.toList) = some us' := e1
   have hlim : ¬ (len * size > 2 ^ 24) := qk
   have h0 : ¬ (len * size = 0) := qk
   simp only [execOp, Instr.buildSlice, qaK, run_underlying hu, qaD, zbc (P := P) (t := e) (n := size) (by rw [hq]; simp [hi]), hlim, if_false, h0, zeroValue, typeInfo, run_program, hq, hz1, qaL, qbR, Sem.run_ite, hz2]
   simp only [e1', newRow, qaK, run_newObj, qaD, qaL]
   rfl
 unfold Out
 rw [hex]
 have hb : Below w.heap.size w (w.alloc (.cells us' e)) := (Below.refl _ _).alloc (Nat.le_refl _) _
 have hgr := zdl hm hb hd' (.pointer (some ⟨w.heap.size, 0, none⟩))
 obtain ⟨f1, f2⟩ := zds hm hb d' hd' (.pointer (some ⟨w.heap.size, 0, none⟩)) (.box e es) (fun b hb => by simp [blk] at hb; omega)
  ⟨w.heap.size, us'.toList, rfl, hm.hB, RepL.mono hgr _ _ e2, e3, by simpa using heap_alloc_new w (.cells us' e)⟩
 exact ⟨S, _, by simp only [Rep]; exact ⟨_, _, rfl, Nat.le_refl _, .inr ⟨w.heap.size, .pointer (some ⟨w.heap.size, 0, none⟩), by simp [setM], rfl, rfl⟩⟩, f1, f2⟩
def AV.cellOK : AV → Bool
 | .p _ => true
 | .row _ => true
 | _ => false
theorem a_appendB {s x : Operand} {t e bt : TypeId} {size bytes : Nat} (d' : Nat) {o o2 n m : Nat} {cs ys zs : List AV} {c : Option Nat} (hu : P.underlying t = some (.slice e)) (he : zcG P e size bytes = true) (hy0 : ys.length = m * size) (hok : ys.all AV.cellOK = true)
 (hb1 : n + m ≤ maxLen) (hb2 : (n + m) * bytes ≤ 140737488355328) {k : Nat} (hk : n + m = k) (hz : cs ++ ys = zs) :
 AOp P ⟨d, .call { callee := .builtin .append, args := #[s, x], argTypes := #[t, t] }, ty, pos, af, g⟩ [.row o, .psl o2 0 m size] [(o, .live (.rowA e size n c cs)), (d', .un), (o2, .live (.box bt ys))] [(d', .live (.rowA e size k none zs)), (o, .dead)] (.row d') := by
 intro w0 A S mm heap w ev hm hR hrd
 have ho : heap o = .live (.rowA e size n c cs) := hrd (o, _) qz
 have hd' : heap d' = .un := hrd (d', _) qz
 have ho2 : heap o2 = .live (.box bt ys) := hrd (o2, _) qz
 obtain ⟨hx, hy⟩ := zci (u := ev s) (v := ev x) hR
 simp only [Rep] at hx hy
 obtain ⟨a, cap, y1, y2, y3⟩ := hy
 obtain ⟨v2, l1, l2, _⟩ := hm.live o2 _ ho2
 obtain ⟨b2, vs, rfl, _, e2, e2o, l3⟩ := l2
 have e3 : vs.length = m * size := by rw [e2.length, hy0]
 obtain ⟨hx, _⟩ := hx
 obtain ⟨v, k1, k2, k3⟩ := hm.live o _ ho
 rw [hx] at k1
 have k1 := Option.some.inj k1
 obtain ⟨us, j1, j2, _⟩ := k2
 obtain ⟨i, z, i1, i2, i3, i4, i5⟩ := zdd he
 have e4 : a = none → m = 0 := fun h => by
  rcases y3 with y3 | ⟨b, v0, _, _, h6⟩
  ·exact y3
  ·rw [h] at h6; cases h6
 have e5 : ∀ ad, a = some ad → ∀ j v, vs[j]? = some v → w.cell? (ad.add j) = some v := fun ad ha j v hj => by
  rcases y3 with y3 | ⟨b, v0, h4, h5, h6⟩
  ·subst y3
   have : vs = [] := qaQ (by rw [e3]; simp)
   rw [this] at hj; simp at hj
  ·rw [ha] at h6; cases h6
   rw [l1] at h4; cases h4
   obtain rfl : b2 = b := by simpa [blk] using h5
   rw [Addr.add_mid]; exact zcn l3 j v hj
 obtain ⟨v', w', hrun, hrow, hg, hblk⟩ := zdN (P := P) w w0.heap.size t ty e i z size bytes hu i1 i2 i3 i4 i5 v n us j2 a m cap vs e3 e4 e5 e2o hb1 hb2 hm.hB
 unfold Out
 have hex : (execOp ev ⟨d, .call { callee := .builtin .append, args := #[s, x], argTypes := #[t, t] }, ty, pos, af, g⟩).run P w = .ok (.value v') w' := by
  simp only [execOp, resolve, invoke, builtin, qaK, qaL, qaD, List.map_toArray, qaF, qbY, k1, y1, hrun]
 rw [hex]
 have hmd := hm.un d' hd'
 have hbb : ∀ b, blk v = some b → ¬ S b := k3
 have hgr : Grow S mm w S (setM mm d' v') w' := ⟨fun _ h => h, fun b hS => hg.block b (hm.sW b hS) (fun e => hbb b e.symm hS), fun o' u hu => by
  have hne : o' ≠ d' := fun e => by rw [e, hmd] at hu; cases hu
  simpa [setM, hne] using hu⟩
 subst hk
 subst hz
 obtain ⟨f1, f2⟩ := mem_append hm (o := o) (d := d') (v := v) (v' := v') (ob' := .rowA e size (n + m) none (cs ++ ys)) ho hd' (by rw [hx, k1]) hg hblk
  ⟨us ++ vs, RepL.mono hgr _ _ (j1.append e2), hrow, fun k hk => by cases hk⟩
 refine ⟨S, _, ?_, f1, f2⟩
 simp only [Rep]
 refine ⟨by simp [setM], ?_⟩
 rcases hrow.2 with ⟨rfl, _⟩ | ⟨g', cap, cur, fz, rfl, _⟩
 ·exact ⟨none, 0, 0, rfl⟩
 ·exact ⟨_, _, _, rfl⟩
theorem a_sliceC {t e e' : TypeId} {x : Operand} {hi : Option Operand} {H : Option (IntKind × Int)} {o n c h size k : Nat} {cs : List AV} (hu : P.underlying t = some (.slice e)) (hi' : (P.info? e).map (·.size) = some k) (hH : bOK hi H n h) (hc : h ≤ c) :
 AOp P ⟨d, .slice t x none hi none, ty, pos, af, g⟩ (SlOps x none hi (.row o) none H) [(o, .live (.rowA e' size n (some c) cs))] [] (.pslc o h) :=
 zbu fun w0 A S m heap w ev hm hR hrd => by
  obtain ⟨h1, h2, h3⟩ := zcY (t := t) (lo := none) (L := none) (l := 0) (dl := 0) rfl hH hR
  simp only [Rep] at h1
  obtain ⟨hx, _⟩ := h1
  obtain ⟨v, k1, k2, _⟩ := hm.live o _ (rd1 hrd)
  rw [hx] at k1
  have e1 := Option.some.inj k1
  obtain ⟨us, j1, ⟨j2, j3⟩, j4⟩ := k2
  obtain ⟨a, rfl⟩ := j4 c rfl
  have ha : ∀ x, a = some x → ∃ g, x = ⟨g, 0, none⟩ := fun x hx => by
   rcases j3 with ⟨e1, _⟩ | ⟨gb, cap, cur, fz, e1, _⟩
   ·cases e1; cases hx
   ·cases e1; cases hx; exact ⟨_, rfl⟩
  have := zcc (a := a) (len := n) (cap := c) hu hi' h2 h3 (qbk h) hc w
  rw [head_sl a c k ha, qbG, qcb, qcb] at this
  refine ⟨.slice a h c, by simp only [execOp, e1, qbG, qaK, this, qaD, qaL], ?_⟩
  simp only [Rep]
  exact ⟨a, n, c, by rw [hx, e1], rfl⟩
theorem zgv {s x : Operand} {t tn e : TypeId} {size bytes : Nat} (d' : Nat) {o n c i k : Nat} {cs zs : List AV} {kn : IntKind} (hu : P.underlying t = some (.slice e)) (hun : P.underlying tn = some (.int kn)) (he : zcG P e size bytes = true) (hs : 0 < size)
 (hin : i ≤ n) (h0 : 0 < k) (hc : c < i + k) (hb1 : i + k ≤ maxLen) (hb2 : (i + k) * bytes ≤ 140737488355328) (hz : cs.take (i * size) ++ List.replicate (k * size) .any = zs) {q : Nat} (hq : i + k = q) :
 AOp P ⟨d, .call { callee := .builtin .append, args := #[s, x], argTypes := #[t, tn] }, ty, pos, af, g⟩ [.pslc o i, qd k] [(o, .live (.rowA e size n (some c) cs)), (d', .un)] [(d', .live (.rowA e size q none zs))] (.row d') := by
 intro w0 A S mm heap w ev hm hR hrd
 have ho : heap o = .live (.rowA e size n (some c) cs) := hrd (o, _) qz
 have hd' : heap d' = .un := hrd (d', _) qz
 obtain ⟨hx, hy⟩ := zci (u := ev s) (v := ev x) hR
 have hy := zba hy
 simp only [Rep] at hx
 obtain ⟨a, n0, c0, hx1, hx2⟩ := hx
 obtain ⟨v, k1, k2, k3⟩ := hm.live o _ ho
 rw [hx1] at k1
 obtain rfl := Option.some.inj k1
 obtain ⟨us, j1, j2, j3⟩ := k2
 obtain ⟨a', e1⟩ := j3 c rfl
 cases e1
 obtain ⟨it, z, i1, i2, i3, i4, i5⟩ := zdd he
 subst hz hq i3 i4
 have hl := j1.length
 have hle : i * it.size ≤ us.length := by rw [j2.1]; exact qba _ hin
 have hold : (Builtin.firstCells it.size i (.slice a i c)).run P w.drew = .ok (us.take (i * it.size)).toArray w.drew := by
  cases a with
  | none =>
   rcases j2.2 with ⟨_, hn⟩ | ⟨gb, cap, cur, fz, e1, _⟩
   ·subst hn
    obtain rfl : i = 0 := qk
    simpa using run_firstCells_none w.drew it.size 0 0 c
   ·cases e1
  | some ad =>
   have hr2 : ∀ j u, (us.take (i * it.size))[j]? = some u → w.drew.cell? (ad.add j) = some u := fun j u hj => by
    rw [qa9] at hj
    split at hj
    ·rcases j2.2 with ⟨e1, _⟩ | ⟨gb, cap, cur, fz, e1, _⟩
     ·cases e1
     ·have := zbG j2 (b := ad.block) rfl j u hj
      cases e1
      rw [Addr.add_mid]; exact this
    ·cases hj
   exact run_firstCells_some w.drew it.size i ad i c (us.take (i * it.size)) qW hr2
 have hkb : k * it.bytes ≤ 281474976710656 := by
  have : k * it.bytes ≤ (i + k) * it.bytes := qba _ qk
  omega
 have hrun := Lib.run_append_grow_zeros (P := P) w t tn ty e it z .i64 kn hu hun i1 i2 a i c (us.take (i * it.size)) hold k h0 hs hc (by simp only [maxLen] at hb1; omega) hkb (growslice_fits hc hb2)
 generalize hG : grownCap w (i + k) c e = G at hrun
 have hge : i + k ≤ G := by rw [← hG]; exact grownCap_ge w (i + k) c e
 have hcm : G ≤ maxLen := by rw [← hG]; exact grownCap_le_maxLen w (i + k) c e hb1
 unfold Out
 have hex : (execOp ev ⟨d, .call { callee := .builtin .append, args := #[s, x], argTypes := #[t, tn] }, ty, pos, af, g⟩).run P w = .ok (.value (.slice (some ⟨w.heap.size, 0, none⟩) (i + k) G)) (w.drew.alloc (.cells ((us.take (i * it.size)).toArray ++ Builtin.zeroCells z.cells k ++ Builtin.zeroCells z.cells (G - (i + k))) e)) := by
  simp only [execOp, resolve, invoke, builtin, qaK, qaL, qaD, List.map_toArray, qaF, qbY, hx2, hy, hrun]
 rw [hex]
 generalize hW : w.drew.alloc (.cells ((us.take (i * it.size)).toArray ++ Builtin.zeroCells z.cells k ++ Builtin.zeroCells z.cells (G - (i + k))) e) = W
 have hb : Below w.heap.size w W := by
  rw [← hW]
  have h1 : Below w.heap.size w w.drew := ⟨rfl, rfl, rfl, Nat.le_refl _, fun _ _ => rfl⟩
  have h2 : Below w.drew.heap.size w.drew (w.drew.alloc (.cells ((us.take (i * it.size)).toArray ++ Builtin.zeroCells z.cells k ++ Builtin.zeroCells z.cells (G - (i + k))) e)) := (Below.refl _ _).alloc (Nat.le_refl _) _
  exact h1.trans h2
 have hgr := zdl hm hb hd' (.slice (some ⟨w.heap.size, 0, none⟩) (i + k) G)
 have hW2 : W.heap[w.heap.size]? = some (.cells ((us.take (i * it.size)).toArray ++ Builtin.zeroCells z.cells k ++ Builtin.zeroCells z.cells (G - (i + k))) e (0, 0)) := by rw [← hW]; exact heap_alloc_new w.drew _
 have hzl : (Builtin.zeroCells z.cells k).toList.length = k * it.size := by rw [qbp, size_zeroCells, i5]
 have htl : (us.take (i * it.size)).length = i * it.size := by rw [List.length_take]; omega
 obtain ⟨f1, f2⟩ := zds hm hb d' hd' (.slice (some ⟨w.heap.size, 0, none⟩) (i + k) G) (.rowA e it.size (i + k) none (cs.take (i * it.size) ++ List.replicate (k * it.size) .any)) (fun b hb => by simp [blk] at hb; omega)
  ⟨us.take (i * it.size) ++ (Builtin.zeroCells z.cells k).toList, (RepL.mono hgr _ _ (j1.take _)).append (by
   have := RepL.anys (S := S) (m := setM mm d' (.slice (some ⟨w.heap.size, 0, none⟩) (i + k) G)) (w := W) (Builtin.zeroCells z.cells k).toList
   rwa [hzl] at this), ⟨by rw [qaC, htl, hzl, ← qbx], .inr ⟨w.heap.size, G, _, (0, 0), rfl, hm.hB, hW2, .inl rfl, hge, hcm, by
   simp only [qcd, qbF, htl, size_zeroCells, i5, ← qbx]
   congr 1; omega, by
   simp only [Array.toList_append]
   rw [qa3 (by simp only [qaC, hzl, htl, ← qbx]; exact Nat.le_refl _), qaN (by simp only [qaC, hzl, htl, ← qbx]; exact Nat.le_refl _)]⟩⟩, fun k hk => by cases hk⟩
 exact ⟨S, _, by simp only [Rep]; exact ⟨by simp [setM], _, _, _, rfl⟩, f1, f2⟩
theorem a_clearRA {x : Operand} {t e : TypeId} {o off m n size : Nat} {c : Option Nat} {cs es : List AV} {z0 : Array Value} (hu : P.underlying t = some (.slice e)) (hz : (P.info? e).map (fun i => i.zero.map Value.cells) = some (some z0)) (hzs : z0.size = size) (h1 : z0.toList.all (fun x => x.oneCell') = true)
 (hm1 : 1 ≤ m) (hk : off + m * size ≤ cs.length) (h : setR cs off (List.replicate (m * size) .any) = es) :
 AOp P ⟨d, .call { callee := .builtin .clear, args := #[x], argTypes := #[t] }, ty, pos, af, g⟩ [.psl o off m size] [(o, .live (.rowA e size n c cs))] [(o, .live (.rowA e size n c es))] .any := by
 intro w0 A S mm heap w ev hm hR hrd
 have ho : heap o = .live (.rowA e size n c cs) := rd1 hrd
 have hx := zcp (u := ev x) hR
 simp only [Rep] at hx
 obtain ⟨a1, cap1, d1, d2, d3⟩ := hx
 obtain ⟨b, v0, d4, d5, d6⟩ : ∃ b v0, mm o = some v0 ∧ blk v0 = some b ∧ a1 = some ⟨b, off, none⟩ := by
  rcases d3 with d3 | d3
  ·omega
  ·exact d3
 subst d6
 obtain ⟨v, k1, k2, k3⟩ := hm.live o _ ho
 rw [d4] at k1; cases k1
 obtain ⟨us, j1, j2, j3⟩ := k2
 have hl1 := j1.length
 have hzl : (Builtin.zeroCells z0 m).toList.length = m * size := by rw [qbp, size_zeroCells, hzs]
 have hone : ∀ v ∈ (Builtin.zeroCells z0 m).toList, v.oneCell' = true := fun v hv => by
  have h1' : ∀ x ∈ z0.toList, x.oneCell' = true := by simpa only [qbd] using h1
  simp only [Builtin.zeroCells] at hv
  simp at hv
  obtain ⟨i, hi, rfl⟩ := hv
  have h0 : 0 < z0.size := by
   rcases Nat.eq_zero_or_pos z0.size with h | h
   ·rw [h] at hi; omega
   ·exact h
  have hlt := Nat.mod_lt i h0
  rw [getElem!_pos z0 _ hlt]
  exact h1' _ qz
 obtain ⟨cur, fz, q1, q2, q4, q3⟩ := zg2 (d := off) (vs := (Builtin.zeroCells z0 m).toList) j2 d5 qk
 have hst := zbB P b off e fz (Builtin.zeroCells z0 m).toList 0 cur w q1 q2.cells qk hone
 have hex : (execOp ev ⟨d, .call { callee := .builtin .clear, args := #[x], argTypes := #[t] }, ty, pos, af, g⟩).run P w = .ok (.value (.tuple #[])) (w.setRow b (setR cur.toList off (Builtin.zeroCells z0 m).toList).toArray) := by
  cases hq' : P.info? e with
  | none => simp [hq'] at hz
  | some i =>
   simp [hq'] at hz
   obtain ⟨z, hz1, hz2⟩ := hz
   obtain ⟨m', rfl⟩ : ∃ m', m = m' + 1 := ⟨m - 1, qk⟩
   simp only [qbi] at hst
   simp [execOp, resolve, invoke, builtin, d1, Builtin.clear_, run_underlying hu, zeroValue, typeInfo, hq', hz1, hz2, hst, setR]
 unfold Out
 rw [hex]
 have hgr : Grow S mm w S mm (w.setRow b (setR cur.toList off (Builtin.zeroCells z0 m).toList).toArray) := ⟨fun _ h => h, fun c hS => setRow_other w b c _ (fun e => k3 b d5 (e ▸ hS)), fun _ _ h => h⟩
 obtain ⟨f1, f2⟩ := zeo hm (ob' := .rowA e size n c es) (v := v0) (b := b) (setR cur.toList off (Builtin.zeroCells z0 m).toList).toArray (cur := cur) (t := e) (fz := fz) ho d4 d5
  ⟨_, h ▸ RepL.mono hgr _ _ (j1.setR off (by have := RepL.anys (S := S) (m := mm) (w := w) (Builtin.zeroCells z0 m).toList; rwa [hzl] at this)), q3, j3⟩
 exact ⟨S, mm, by simp only [Rep], f1, f2⟩
theorem zgt {t e : TypeId} {x : Operand} {hi : Option Operand} {H : Option (IntKind × Int)} {o o' n h size : Nat} {c : Option Nat} {cs zs : List AV} (hu : P.underlying t = some (.slice e)) (hi' : (P.info? e).map (·.size) = some size) (hH : bOK hi H n h) (hh : h ≤ n)
 (hz : cs.take (h * size) = zs) :
 AOp P ⟨d, .slice t x none hi none, ty, pos, af, g⟩ (SlOps x none hi (.row o) none H) [(o, .live (.rowA e size n c cs)), (o', .un)] [(o', .live (.rowA e size h none zs)), (o, .dead)] (.row o') := by
 intro w0 A S m heap w ev hm hR hrd
 have ho : heap o = .live (.rowA e size n c cs) := hrd (o, _) qz
 have hd' : heap o' = .un := hrd (o', _) qz
 obtain ⟨h1, h2, h3⟩ := zcY (t := t) (lo := none) (L := none) (l := 0) (dl := 0) rfl hH hR
 simp only [Rep] at h1
 obtain ⟨hx, _⟩ := h1
 obtain ⟨v, k1, k2, k3⟩ := hm.live o _ ho
 rw [hx] at k1
 have k1 := Option.some.inj k1
 obtain ⟨us, j1, ⟨j2, j3⟩, _⟩ := k2
 subst hz
 obtain ⟨a, c, rfl, hnc⟩ : ∃ a c, v = .slice a n c ∧ n ≤ c := by
  rcases j3 with ⟨rfl, rfl⟩ | ⟨gb, cap, cur, fz, rfl, _, _, _, g5, _⟩
  ·exact ⟨_, _, rfl, Nat.le_refl _⟩
  ·exact ⟨_, _, rfl, g5⟩
 have ha : ∀ x, a = some x → ∃ g, x = ⟨g, 0, none⟩ := fun x hx => by
  exact jcq
 have hrun : (execOp ev ⟨d, .slice t x none hi none, ty, pos, af, g⟩).run P w = .ok (.value (.slice a h c)) w := by
  have := zcc (a := a) (len := n) (cap := c) hu hi' h2 h3 (qbk h) (qby hh hnc) w
  exact jbW
 unfold Out
 rw [hrun]
 have hmd := hm.un o' hd'
 have hgr : Grow S m w S (setM m o' (.slice a h c)) w := ⟨fun _ h => h, fun b hS => rfl, fun q u hu => by
  have hne : q ≠ o' := fun e => by rw [e, hmd] at hu; cases hu
  simpa [setM, hne] using hu⟩
 have hobj : ORep w0.heap.size S (setM m o' (.slice a h c)) w (.rowA e size h none (cs.take (h * size))) (.slice a h c) := by
  have hle : h * size ≤ n * size := qba _ hh
  refine ⟨us.take (h * size), (RepL.mono hgr _ _ j1).take _, ⟨by rw [List.length_take]; omega, ?_⟩, fun k hk => by cases hk⟩
  rcases j3 with ⟨e1, rfl⟩ | ⟨gb, cap, cur, fz, e1, g2, g3, g4, g5, g6, g7, g8⟩
  ·cases e1
   obtain rfl : h = 0 := qk
   exact .inl ⟨rfl, rfl⟩
  ·cases e1
   refine .inr ⟨gb, c, cur, fz, rfl, g2, g3, g4, qk, g6, g7, ?_⟩
   rw [← g8, qbT, Nat.min_eq_left hle]
 exact jbv
theorem zh5 {x y z : Operand} {ts : Array TypeId} {f : FuncId} {fn : Func} {tS tR e bt : TypeId} {o1 o2 n1 n2 off n size size' : Nat} {c : Option Nat} {cs es : List AV} (hf : P.funcs[f]? = some fn) (hname : (fn.name == "runtime.NumGoroutine") = false) (hb : fn.body.isNone = true) (hn : Extern.findNext fn = none)
 (he : Extern.find fn = some (Extern.SlicesOverlaps.overlaps #[tS, tS] #[tR])) (hu : P.underlying tS = some (.slice e)) (hi : (P.info? e).map (·.size) = some size) (hne : Nat.beq o1 o2 = false) (h1 : 1 ≤ n1) (h2 : 1 ≤ n2) (hcs : 1 ≤ cs.length) :
 AOp P ⟨d, .call { callee := .value x, args := #[y, z], argTypes := ts }, ty, pos, af, g⟩ [.fn f [], .psl o1 0 n1 size', .psl o2 off n2 size'] [(o1, .live (.box bt es)), (o2, .live (.rowA e size n c cs))] [] (qf false) :=
 zbu fun w0 A S m heap w ev hm hR hrd => by
  have hr' : RepL S m w [.fn f [], .psl o1 0 n1 size', .psl o2 off n2 size'] [ev x, ev y, ev z] := by simpa [Op.operands, Call.operands] using hR
  obtain ⟨ha, hb1, hb2⟩ := zg3 hr'
  have l1 : heap o1 = .live (.box bt es) := hrd (o1, _) qz
  have l2 : heap o2 = .live (.rowA e size n c cs) := hrd (o2, _) qz
  simp only [Rep, RepL] at ha hb1 hb2
  obtain ⟨us, h3, rfl⟩ := ha
  obtain ⟨a1, c1, e1, _, d1⟩ := hb1
  obtain ⟨a2, c2, e2, _, d2⟩ := hb2
  obtain ⟨b1, v1, m1, k1, rfl⟩ : ∃ b v0, m o1 = some v0 ∧ blk v0 = some b ∧ a1 = some ⟨b, 0, none⟩ := by
   rcases d1 with d1 | d1
   ·omega
   ·exact d1
  obtain ⟨b2, v2, m2, k2, rfl⟩ : ∃ b v0, m o2 = some v0 ∧ blk v0 = some b ∧ a2 = some ⟨b, off, none⟩ := by
   rcases d2 with d2 | d2
   ·omega
   ·exact d2
  obtain ⟨v1', i1, i2, _⟩ := hm.live o1 _ l1
  rw [m1] at i1; cases i1
  obtain ⟨v2', j1, j2, _⟩ := hm.live o2 _ l2
  rw [m2] at j1; cases j1
  have hbne : b1 ≠ b2 := fun hbe => by
   subst hbe
   have := hm.inj o1 o2 _ _ _ _ b1 l1 l2 m1 m2 k1 k2
   subst this
   simp at hne
  obtain ⟨bb, us1, rfl, _, _, _, g1⟩ := i2
  obtain rfl : bb = b1 := by simpa [blk] using k1
  obtain ⟨us2, q1, ⟨q2, q3⟩, _⟩ := j2
  have hl := q1.length
  rcases q3 with ⟨rfl, _⟩ | ⟨gb, cap, cur, fz, rfl, _, g2, _, g5, _, g7, g8⟩
  ·simp [blk] at k2
  obtain rfl : gb = b2 := by simpa [blk] using k2
  have hcur : cur.size ≠ 0 := by
   have : n * size ≤ cur.size := by rw [g7]; exact qba _ g5
   omega
  have hsz : ∀ w, (Go.sizeOf e).run P w = .ok size w := fun w => by
   cases hq : P.info? e with
   | none => simp [hq] at hi
   | some i => simp [hq] at hi; simp [sizeOf, typeInfo, hq, hi]
  have hov := Lib.run_overlaps_apart (P := P) w tS tR e hu size hsz ⟨bb, 0, none⟩ ⟨gb, off, none⟩ n1 c1 n2 c2 hbne bt e us1.toArray.size cur.size (by simp [World.shape?, g1]) (by simp [World.shape?, g2]) hcur (by simp [World.frozen?, g1]) (by simp [World.frozen?, g1])
  refine ⟨.bool false, ?_, za3 rfl⟩
  simp only [execOp, resolve, h3, Deferred.ofValue, invoke, qaK, qaL, qaD]
  have := run_callFunc_extern (P := P) hf hname hb hn he #[ev y, ev z] w
  rw [e1, e2, hov] at this
  simpa [e1, e2] using this
end
end Go.Proofs.YtlfjpippeeikdaaGreatDoor
