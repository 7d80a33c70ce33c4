/- The machine over data: the operations on memory. -/
import Derived.Test.YtgbgpidimipfjaaAbp
namespace Go.Proofs.Ytgbgpidimipfjaa
open Go.RowKit Go.Sort
set_option linter.unusedVariables false

theorem rd1 {heap : Nat → Slot} {o : Nat} {s : Slot} (h : ∀ p ∈ [(o, s)], heap p.1 = p.2) : heap o = s := h (o, s) (by simp)
theorem ORep.range {B : Nat} {S : Nat → Prop} {m : Nat → Option Value} {w : World} {v : Value} {b : Nat} {ty : TypeId} {cs : List AV} (h : ORep B S m w (.box ty cs) v) (hb : blk v = some b) :
    ∃ us, RepL S m w cs us ∧ (∀ x ∈ us, x.oneCell' = true) ∧ w.rangeAt b 0 us ∧ w.heap[b]? = some (.cells us.toArray ty (0, 0)) := by
  obtain ⟨b', us, rfl, h1, h2, h3, h4⟩ := h
  obtain rfl : b' = b := by simpa [blk] using hb
  exact ⟨us, h2, h3, box_range h4, h4⟩
theorem ORep.rangeR {B : Nat} {S : Nat → Prop} {m : Nat → Option Value} {w : World} {v : Value} {b : Nat} {e : TypeId} {size n : Nat} {cs : List PV} (h : ORep B S m w (.row e size n cs) v) (hb : blk v = some b) :
    ∃ us, PRepL S w cs us ∧ w.rangeAt b 0 us ∧ us.length = n * size := by
  obtain ⟨us, h1, h2⟩ := h
  exact ⟨us, h1, own_range h2 hb, h2.1⟩

section
variable {P : Program} {d : Option Tmp} {ty : TypeId} {pos : String} {af : Array Edge} {g : Option (Nat × Bool)}

/-! making -/
theorem a_box {x : Operand} {t : TypeId} {X : AV} (n : Nat) (hX : X.stor = true) : AOp P ⟨d, .box t x, ty, pos, af, g⟩ [X] [(n, .un)] [(n, .live (.box t X.cells))] (.ref n 0) := by
  intro w0 A S m heap w ev hm hR hrd
  have hd : heap n = .un := rd1 hrd
  have hx := repL1 (u := ev x) hR
  obtain ⟨h1, h2⟩ := cells_rep hx hX
  have hrun : (execOp ev ⟨d, .box t x, ty, pos, af, g⟩).run P w = .ok (.value (.pointer (some ⟨w.heap.size, 0, none⟩))) (w.alloc (.cells (ev x).cells t)) := by
    simp [execOp, Instr.box, newVar, newRow]
  unfold Out
  rw [hrun]
  have hb : Below w.heap.size w (w.alloc (.cells (ev x).cells t)) := (Below.refl _ _).alloc (Nat.le_refl _) _
  have hg := grow_new hm hb hd (.pointer (some ⟨w.heap.size, 0, none⟩))
  obtain ⟨k1, k2⟩ := mem_new hm hb n hd (.pointer (some ⟨w.heap.size, 0, none⟩)) (.box t X.cells) (fun b hb => by simp [blk] at hb; omega)
    ⟨w.heap.size, (ev x).cells.toList, rfl, hm.hB, RepL.mono hg _ _ h1, h2, by simpa using heap_alloc_new w (.cells (ev x).cells t)⟩
  exact ⟨S, _, by simp only [Rep]; exact ⟨w.heap.size, .pointer (some ⟨w.heap.size, 0, none⟩), by simp [setM], rfl, rfl⟩, k1, k2⟩
theorem a_alloc {t : TypeId} {z : Value} (n : Nat) (hz : (P.info? t).map (·.zero) = some (some z)) (hX : (constAV z).stor = true) :
    AOp P ⟨d, .alloc t, ty, pos, af, g⟩ [] [(n, .un)] [(n, .live (.box t (constAV z).cells))] (.ref n 0) := by
  intro w0 A S m heap w ev hm hR hrd
  have hd : heap n = .un := rd1 hrd
  obtain ⟨h1, h2⟩ := cells_rep (constAV_rep S m w z) hX
  have hrun : (execOp ev ⟨d, .alloc t, ty, pos, af, g⟩).run P w = .ok (.value (.pointer (some ⟨w.heap.size, 0, none⟩))) (w.alloc (.cells z.cells t)) := by
    cases hq : P.info? t with
    | none => simp [hq] at hz
    | some i =>
      simp [hq] at hz
      simp [execOp, Instr.alloc, zeroValue, typeInfo, hq, hz, newVar, newRow]
  unfold Out
  rw [hrun]
  have hb : Below w.heap.size w (w.alloc (.cells z.cells t)) := (Below.refl _ _).alloc (Nat.le_refl _) _
  have hg := grow_new hm hb hd (.pointer (some ⟨w.heap.size, 0, none⟩))
  obtain ⟨k1, k2⟩ := mem_new hm hb n hd (.pointer (some ⟨w.heap.size, 0, none⟩)) (.box t (constAV z).cells) (fun b hb => by simp [blk] at hb; omega)
    ⟨w.heap.size, z.cells.toList, rfl, hm.hB, RepL.mono hg _ _ h1, h2, by simpa using heap_alloc_new w (.cells z.cells t)⟩
  exact ⟨S, _, by simp only [Rep]; exact ⟨w.heap.size, .pointer (some ⟨w.heap.size, 0, none⟩), by simp [setM], rfl, rfl⟩, k1, k2⟩

/-! reading -/
theorem run_load1 {t : TypeId} {ds : TypeDesc} (hu : P.underlying t = some ds) (hd : ds.isRow = false) {w : World} {b off : Nat} {u : Value} (h : w.cell? ⟨b, off, none⟩ = some u) :
    (Instr.loadAt t (.pointer (some ⟨b, off, none⟩))).run P w = .ok u w := by
  simp [Instr.loadAt, Instr.sureAddr, loadVar, run_isAgg hu, hd, h]
theorem a_load1 {x : Operand} {t bt : TypeId} {ds : TypeDesc} {o off : Nat} {cs : List AV} {r : AV} (hu : P.underlying t = some ds) (hd : ds.isRow = false) (h : cs[off]? = some r) :
    AOp P ⟨d, .load t x, ty, pos, af, g⟩ [.ref o off] [(o, .live (.box bt cs))] [] r :=
  aop_read fun w0 A S m heap w ev hm hR hrd => by
    have ho : heap o = .live (.box bt cs) := rd1 hrd
    have hx := repL1 (u := ev x) hR
    simp only [Rep] at hx
    obtain ⟨b, v0, h1, h2, h3⟩ := hx
    obtain ⟨v, k1, k2, _⟩ := hm.live o _ ho
    rw [h1] at k1; cases k1
    obtain ⟨us, j1, _, j3, _⟩ := k2.range h2
    obtain ⟨u, i1, i2⟩ := j1.at_ h
    have hc := j3 off u i1
    rw [Nat.zero_add] at hc
    exact ⟨u, by simp [execOp, h3, run_load1 hu hd hc], i2⟩
theorem a_load1r {x : Operand} {t e : TypeId} {ds : TypeDesc} {o off size n : Nat} {cs : List PV} {r : PV} (hu : P.underlying t = some ds) (hd : ds.isRow = false) (h : cs[off]? = some r) :
    AOp P ⟨d, .load t x, ty, pos, af, g⟩ [.ref o off] [(o, .live (.row e size n cs))] [] (.p r) :=
  aop_read fun w0 A S m heap w ev hm hR hrd => by
    have ho : heap o = .live (.row e size n cs) := rd1 hrd
    have hx := repL1 (u := ev x) hR
    simp only [Rep] at hx
    obtain ⟨b, v0, h1, h2, h3⟩ := hx
    obtain ⟨v, k1, k2, _⟩ := hm.live o _ ho
    rw [h1] at k1; cases k1
    obtain ⟨us, j1, j3, _⟩ := k2.rangeR h2
    obtain ⟨u, i1, i2⟩ := j1.at_ h
    have hc := j3 off u i1
    rw [Nat.zero_add] at hc
    exact ⟨u, by simp [execOp, h3, run_load1 hu hd hc], by simpa only [Rep] using i2⟩
theorem a_load1p {x : Operand} {t : TypeId} {ds : TypeDesc} {cs : List PV} {r : PV} (hu : P.underlying t = some ds) (hd : ds.isRow = false) (h : cs[0]? = some r) :
    AOp P ⟨d, .load t x, ty, pos, af, g⟩ [.ptr cs] [] [] (.p r) :=
  aop_pure fun S m w ev hR => by
    have hx := repL1 (u := ev x) hR
    simp only [Rep] at hx
    obtain ⟨b, off, vs, h1, _, h3, h4⟩ := hx
    obtain ⟨u, i1, i2⟩ := h3.at_ h
    have hc := h4 0 u i1
    rw [Nat.add_zero] at hc
    exact ⟨u, by simp [execOp, h1, run_load1 hu hd hc], by simpa only [Rep] using i2⟩
theorem range_of {w : World} {b off k : Nat} {us : List Value} (h : w.rangeAt b 0 us) : w.rangeAt b off ((us.drop off).take k) := range_sub h
theorem a_loadN {x : Operand} {t bt : TypeId} {ds : TypeDesc} {o off k : Nat} {cs es : List AV} (hu : P.underlying t = some ds) (hd : ds.isRow = true) (hi : (P.info? t).map (·.size) = some k)
    (hk : off + k ≤ cs.length) (h : (cs.drop off).take k = es) :
    AOp P ⟨d, .load t x, ty, pos, af, g⟩ [.ref o off] [(o, .live (.box bt cs))] [] (.agg es) :=
  aop_read fun w0 A S m heap w ev hm hR hrd => by
    have ho : heap o = .live (.box bt cs) := rd1 hrd
    have hx := repL1 (u := ev x) hR
    simp only [Rep] at hx
    obtain ⟨b, v0, h1, h2, h3⟩ := hx
    obtain ⟨v, k1, k2, _⟩ := hm.live o _ ho
    rw [h1] at k1; cases k1
    obtain ⟨us, j1, j2, j3, _⟩ := k2.range h2
    have hl := j1.length
    have hrun := run_loadAt_mid (P := P) w b off t ((us.drop off).take k) ds (range_of j3) hu hd (by rw [hi, List.length_take, List.length_drop]; congr 1; omega)
    refine ⟨.agg ((us.drop off).take k).toArray, by simp [execOp, h3, hrun], ?_⟩
    simp only [Rep]
    exact ⟨_, rfl, h ▸ (j1.drop off).take _, all_sub j2⟩
theorem a_loadNr {x : Operand} {t e : TypeId} {ds : TypeDesc} {o off k size n : Nat} {cs es : List PV} (hu : P.underlying t = some ds) (hd : ds.isRow = true) (hi : (P.info? t).map (·.size) = some k)
    (hk : off + k ≤ cs.length) (h : (cs.drop off).take k = es) :
    AOp P ⟨d, .load t x, ty, pos, af, g⟩ [.ref o off] [(o, .live (.row e size n cs))] [] (.agg (es.map AV.p)) :=
  aop_read fun w0 A S m heap w ev hm hR hrd => by
    have ho : heap o = .live (.row e size n cs) := rd1 hrd
    have hx := repL1 (u := ev x) hR
    simp only [Rep] at hx
    obtain ⟨b, v0, h1, h2, h3⟩ := hx
    obtain ⟨v, k1, k2, _⟩ := hm.live o _ ho
    rw [h1] at k1; cases k1
    obtain ⟨us, j1, j3, _⟩ := k2.rangeR h2
    have hl := j1.length
    have hrun := run_loadAt_mid (P := P) w b off t ((us.drop off).take k) ds (range_of j3) hu hd (by rw [hi, List.length_take, List.length_drop]; congr 1; omega)
    refine ⟨.agg ((us.drop off).take k).toArray, by simp [execOp, h3, hrun], ?_⟩
    simp only [Rep]
    exact ⟨_, rfl, (h ▸ (j1.drop off).take _).repL, all_sub j1.one⟩
theorem a_loadNp {x : Operand} {t : TypeId} {ds : TypeDesc} {k : Nat} {cs es : List PV} (hu : P.underlying t = some ds) (hd : ds.isRow = true) (hi : (P.info? t).map (·.size) = some k)
    (hk : k ≤ cs.length) (h : cs.take k = es) :
    AOp P ⟨d, .load t x, ty, pos, af, g⟩ [.ptr cs] [] [] (.agg (es.map AV.p)) :=
  aop_pure fun S m w ev hR => by
    have hx := repL1 (u := ev x) hR
    simp only [Rep] at hx
    obtain ⟨b, off, vs, h1, _, h3, h4⟩ := hx
    have hl := h3.length
    have hr : w.rangeAt b off (vs.take k) := fun j v hj => by
      rw [List.getElem?_take] at hj
      split at hj
      · exact h4 j v hj
      · cases hj
    have hrun := run_loadAt_mid (P := P) w b off t (vs.take k) ds hr hu hd (by rw [hi, List.length_take]; congr 1; omega)
    refine ⟨.agg (vs.take k).toArray, by simp [execOp, h1, hrun], ?_⟩
    simp only [Rep]
    exact ⟨_, rfl, (h ▸ h3.take _).repL, fun y hy => h3.one y (List.mem_of_mem_take hy)⟩

/-! writing -/
theorem run_storeAt_fz {t : TypeId} {k : Nat} (hi : (P.info? t).map (·.size) = some k) {w : World} {b off : Nat} {cur : Array Value} {bt : TypeId} {fz : Nat × Nat} (hg : w.heap[b]? = some (.cells cur bt fz)) (hfz : ∀ i, i < cur.size → ¬ (fz.1 ≤ i ∧ i < fz.2))
    {v : Value} (hv : v.cells.toList.length = k) (h1 : ∀ y ∈ v.cells.toList, y.oneCell' = true) (hk : off + k ≤ cur.size) :
    (Instr.storeAt t (.pointer (some ⟨b, off, none⟩)) v).run P w = .ok () (w.setRow b (setR cur.toList off v.cells.toList).toArray) := by
  have hs := run_storeCells_fz P b off bt fz v.cells.toList 0 cur w hg hfz (by omega) h1
  simp only [Nat.add_zero] at hs
  have hsz : v.cells.size = k := by rw [← hv]; simp
  simp only [Instr.storeAt, Instr.sureAddr, storeVar, Sem.run_bind, Sem.run_pure, Result.andThen_ok, run_sizeOf hi, hsz, ne_eq, not_true_eq_false, if_false, hs, setR, Sem.run_ite]
theorem a_store {x y : Operand} {t bt : TypeId} {o off k : Nat} {cs es : List AV} {Y : AV} (hi : (P.info? t).map (·.size) = some k) (hY : Y.stor = true) (hl : Y.cells.length = k) (hk : off + k ≤ cs.length) (h : setR cs off Y.cells = es) :
    AOp P ⟨d, .store t x y, ty, pos, af, g⟩ [.ref o off, Y] [(o, .live (.box bt cs))] [(o, .live (.box bt es))] .any := by
  intro w0 A S m heap w ev hm hR hrd
  have ho : heap o = .live (.box bt cs) := rd1 hrd
  obtain ⟨hx, hy⟩ := repL2 (u := ev x) (v := ev y) hR
  simp only [Rep] at hx
  obtain ⟨b, v0, h1, h2, h3⟩ := hx
  obtain ⟨v, k1, k2, k3⟩ := hm.live o _ ho
  rw [h1] at k1; cases k1
  obtain ⟨us, j1, j2, j3, j4⟩ := k2.range h2
  obtain ⟨c1, c2⟩ := cells_rep hy hY
  have hl1 := j1.length
  have hl2 := c1.length
  have hrun := run_storeAt_fz hi j4 (fun i _ hh => by simp at hh) (by rw [hl2, hl]) c2 (off := off) (by simp; omega)
  have hex : (execOp ev ⟨d, .store t x y, ty, pos, af, g⟩).run P w = .ok .skip (w.setRow b (setR us off (ev y).cells.toList).toArray) := by
    simp only [execOp, h3, Sem.run_bind, hrun, Result.andThen_ok, Sem.run_pure]
  unfold Out
  rw [hex]
  have hgr : Grow S m w S m (w.setRow b (setR us off (ev y).cells.toList).toArray) := ⟨fun _ h => h, fun c hS => setRow_other w b c _ (fun e => k3 b h2 (e ▸ hS)), fun _ _ h => h⟩
  have hone : ∀ z ∈ setR us off (ev y).cells.toList, z.oneCell' = true := by
    intro z hz
    simp only [setR, List.mem_append] at hz
    rcases hz with (hz | hz) | hz
    · exact j2 z (List.mem_of_mem_take hz)
    · exact c2 z hz
    · exact j2 z (List.mem_of_mem_drop hz)
  have hv0 : ∃ b', v0 = .pointer (some ⟨b', 0, none⟩) := by obtain ⟨b', _, e, _⟩ := k2; exact ⟨b', e⟩
  obtain ⟨b', rfl⟩ := hv0
  obtain rfl : b' = b := by simpa [blk] using h2
  obtain ⟨e1, e2⟩ := mem_store hm (ob' := .box bt es) (v := .pointer (some ⟨b', 0, none⟩)) (b := b') (setR us off (ev y).cells.toList).toArray (cur := us.toArray) (t := bt) (fz := (0, 0)) ho h1 rfl
    ⟨b', setR us off (ev y).cells.toList, rfl, (k2.lt h2).1, h ▸ RepL.mono hgr _ _ (j1.setR off c1), hone, setRow_heap w b' _ _ bt (0, 0) j4⟩
  exact ⟨S, m, by simp only [Rep], e1, e2⟩
theorem a_storeR {x y : Operand} {t e : TypeId} {o off k size n : Nat} {cs es ys : List PV} {Y : AV} (hi : (P.info? t).map (·.size) = some k) (hY : Y.stor = true) (hys : Y.cells = ys.map AV.p) (hl : ys.length = k) (hk : off + k ≤ cs.length) (h : setR cs off ys = es) :
    AOp P ⟨d, .store t x y, ty, pos, af, g⟩ [.ref o off, Y] [(o, .live (.row e size n cs))] [(o, .live (.row e size n es))] .any := by
  intro w0 A S m heap w ev hm hR hrd
  have ho : heap o = .live (.row e size n cs) := rd1 hrd
  obtain ⟨hx, hy⟩ := repL2 (u := ev x) (v := ev y) hR
  simp only [Rep] at hx
  obtain ⟨b, v0, h1, h2, h3⟩ := hx
  obtain ⟨v, k1, k2, k3⟩ := hm.live o _ ho
  rw [h1] at k1; cases k1
  obtain ⟨c1, c2⟩ := cells_rep hy hY
  rw [hys] at c1
  have hB := (k2.lt h2).1
  obtain ⟨us, j1, j2, j3⟩ := k2
  have hl1 := j1.length
  have hl2 := c1.length
  rcases j3 with ⟨rfl, _⟩ | ⟨b', cap, cur, fz, rfl, g1, g2, g3, g4, g5, g6, g7⟩
  · simp [blk] at h2
  obtain rfl : b' = b := by simpa [blk] using h2
  have hsz : us.length ≤ cur.size := by rw [← g7]; simp; omega
  have hrun := run_storeAt_fz hi g2 g3.cells (v := ev y) (by rw [hl2]; simpa using hl) c2 (off := off) (by omega)
  have hex : (execOp ev ⟨d, .store t x y, ty, pos, af, g⟩).run P w = .ok .skip (w.setRow b' (setR cur.toList off (ev y).cells.toList).toArray) := by
    simp only [execOp, h3, Sem.run_bind, hrun, Result.andThen_ok, Sem.run_pure]
  unfold Out
  rw [hex]
  have hgr : Grow S m w S m (w.setRow b' (setR cur.toList off (ev y).cells.toList).toArray) := ⟨fun _ h => h, fun c hS => setRow_other w b' c _ (fun e => k3 b' h2 (e ▸ hS)), fun _ _ h => h⟩
  have hlen2 : (ev y).cells.toList.length = k := by rw [hl2]; simpa using hl
  have htake : (setR cur.toList off (ev y).cells.toList).take (n * size) = setR us off (ev y).cells.toList := by
    rw [← j2]
    have hus : us = cur.toList.take us.length := by rw [j2]; exact g7.symm
    have hu : ∀ i, us[i]? = if i < us.length then cur.toList[i]? else none := fun i => by
      conv => lhs; rw [hus]
      exact List.getElem?_take
    unfold setR
    apply List.ext_getElem?
    intro i
    simp only [hu, List.getElem?_take, List.getElem?_append, List.getElem?_drop, List.length_append, List.length_take, hlen2, Array.length_toList]
    have h8 : min off us.length = off := by omega
    have h9 : min off cur.size = off := by omega
    simp only [h8, h9]
    by_cases a1 : i < us.length
    · simp only [a1, if_true]
      by_cases a2 : i < off
      · have a3 : i < off + k := by omega
        simp [a2, a3]
      · by_cases a3 : i < off + k
        · simp [a2, a3]
        · have a5 : off + k + (i - (off + k)) < us.length := by omega
          simp [a3, a5]
    · simp only [a1, if_false]
      have a3 : ¬ i < off + k := by omega
      have a5 : ¬ off + k + (i - (off + k)) < us.length := by omega
      simp [a3, a5]
  have hfit : off + (ev y).cells.toList.length ≤ cur.toList.length := by rw [hlen2]; simp only [Array.length_toList]; omega
  have hfit2 : off + (ev y).cells.toList.length ≤ us.length := by rw [hlen2]; omega
  obtain ⟨e1, e2⟩ := mem_store hm (ob' := .row e size n es) (v := .slice (some ⟨b', 0, none⟩) n cap) (b := b') (setR cur.toList off (ev y).cells.toList).toArray (cur := cur) (t := e) (fz := fz) ho h1 rfl
    ⟨setR us off (ev y).cells.toList, h ▸ PRepL.mono hgr.s hgr.w _ _ (j1.setR off (repL_prepL c1)), by rw [setR_length hfit2]; exact j2, .inr ⟨b', cap, _, fz, rfl, g1, setRow_heap w b' _ _ e fz g2, by
      have : (setR cur.toList off (ev y).cells.toList).toArray.size = cur.size := by simp only [List.size_toArray]; rw [setR_length hfit]; simp
      rw [this]; exact g3, g4, g5, by simp only [List.size_toArray]; rw [setR_length hfit]; simpa using g6, by simpa using htake⟩⟩
  exact ⟨S, m, by simp only [Rep], e1, e2⟩
end
end Go.Proofs.Ytgbgpidimipfjaa
