/- The machine over data: make, append, conversions, literals, calls. -/
import Derived.Test.YtgbgpidimipfjaaAbu
import Derived.Laws.BytesArg
namespace Go.Proofs.Ytgbgpidimipfjaa
open Go.RowKit Go.Sort
set_option linter.unusedVariables false

/-- bytes as data -/
def bs (xs : List Int) : List PV := xs.map fun x => .v (.int .u8 x)
@[simp] theorem bs_length (xs : List Int) : (bs xs).length = xs.length := by simp [bs]
theorem bs_append (xs ys : List Int) : bs (xs ++ ys) = bs xs ++ bs ys := by simp [bs]
theorem bs_rep {S : Nat → Prop} {w : World} : ∀ {xs : List Int} {us : List Value}, PRepL S w (bs xs) us → us = xs.map (Value.int .u8)
  | [], us, h => by simpa [bs, PRepL] using h
  | x :: xs, us, h => by
    simp only [bs, List.map_cons, PRepL, PRep] at h
    obtain ⟨u, vs, rfl, ⟨rfl, _⟩, h3⟩ := h
    rw [bs_rep h3]; rfl
theorem bs_mk (S : Nat → Prop) (w : World) : ∀ xs : List Int, PRepL S w (bs xs) (xs.map (Value.int .u8))
  | [] => by simp [bs, PRepL]
  | x :: xs => by
    simp only [bs, List.map_cons, PRepL, PRep]
    exact ⟨_, _, rfl, ⟨rfl, rfl⟩, bs_mk S w xs⟩

/-! append -/
section
variable {P : Program} (w : World)
theorem run_append_room_fz (t ty e : TypeId) (i : TypeInfo) (ht : P.underlying t = some (.slice e)) (hi : P.info? e = some i)
    (g sLen sCap : Nat) (cur : Array Value) (fz : Nat × Nat) (hg : w.heap[g]? = some (.cells cur e fz)) (hfz : ∀ i, i < cur.size → ¬ (fz.1 ≤ i ∧ i < fz.2))
    (a : Addr) (m c : Nat) (news : List Value) (hl : news.length = m * i.size) (hnews : ∀ j u, news[j]? = some u → w.cell? (a.add j) = some u) (h1 : ∀ u ∈ news, u.oneCell' = true)
    (hroom : sLen + m ≤ sCap) (hfit : sLen * i.size + news.length ≤ cur.size) :
    (Builtin.append_ #[t, t] ty #[.slice (some ⟨g, 0, none⟩) sLen sCap, .slice (some a) m c]).run P w =
      .ok (.slice (some ⟨g, 0, none⟩) (sLen + m) sCap) (w.setRow g (cur.toList.take (sLen * i.size) ++ news ++ cur.toList.drop (sLen * i.size + news.length)).toArray) := by
  have hf := run_firstCells_some (P := P) w i.size m a m c news hl hnews
  have hst := run_storeCells_fz P g (sLen * i.size) e fz news 0 cur w hg hfz (by simpa using hfit) h1
  simp only [Nat.add_zero] at hst
  simp [Builtin.append_, run_underlying ht, sizeOf, typeInfo, hi, Builtin.lenOf, hroom, hf, Addr.add_lit, hst]

theorem run_append_fz (base : Nat) (t ty e : TypeId) (i : TypeInfo) (z : Value) (size bytes : Nat) (ht : P.underlying t = some (.slice e)) (hi : P.info? e = some i) (hz : i.zero = some z)
    (hsize : i.size = size) (hby : i.bytes = bytes) (hzs : z.cells.size = size)
    (v : Value) (n : Nat) (xs : List Value) (hown : RowAt w base e size v n xs)
    (a : Option Addr) (m c : Nat) (news : List Value) (hl : news.length = m * size) (ha : a = none → m = 0) (hnews : ∀ ad, a = some ad → ∀ j u, news[j]? = some u → w.cell? (ad.add j) = some u) (h1 : ∀ u ∈ news, u.oneCell' = true)
    (h63 : n + m ≤ maxLen) (hbytes : (n + m) * bytes ≤ 140737488355328) (hbase : base ≤ w.heap.size) :
    ∃ v' w', (Builtin.append_ #[t, t] ty #[v, .slice a m c]).run P w = .ok v' w' ∧ RowAt w' base e size v' (n + m) (xs ++ news) ∧ w.grownBy w' (blk v) ∧ (blk v' = blk v ∨ blk v' = some w.heap.size) := by
  subst hsize
  subst hby
  have hsmall : n + m ≤ 9223372036854775807 := by simp only [maxLen] at h63; omega
  have hlen : (xs ++ news).length = (n + m) * i.size := by rw [List.length_append, hown.1, hl, Nat.add_mul]
  rcases a with _ | a
  · have hm := ha rfl
    subst hm
    have hn : news = [] := List.eq_nil_of_length_eq_zero (by simpa using hl)
    subst hn
    refine ⟨v, w, ?_, by simpa using hown, ⟨rfl, rfl, rfl, Nat.le_refl _, fun _ _ _ => rfl⟩, .inl rfl⟩
    rcases hown.2 with ⟨rfl, rfl⟩ | ⟨g, cap, cur, fz, rfl, _, _, _, hnc, _⟩
    · simp [Builtin.append_, run_underlying ht, sizeOf, typeInfo, hi, Builtin.lenOf, Builtin.firstCells]
    · simp [Builtin.append_, run_underlying ht, sizeOf, typeInfo, hi, Builtin.lenOf, Builtin.firstCells, hnc, storeCells]
  replace hnews := hnews a rfl
  have grown : ∀ (old : Nat), old < n + m → ∀ (row : Option Nat),
      RowAt (w.drew.alloc (.cells (xs.toArray ++ news.toArray ++ Builtin.zeroCells z.cells (grownCap w (n + m) old e - (n + m))) e)) base e i.size
        (.slice (some ⟨w.heap.size, 0, none⟩) (n + m) (grownCap w (n + m) old e)) (n + m) (xs ++ news) ∧
      w.grownBy (w.drew.alloc (.cells (xs.toArray ++ news.toArray ++ Builtin.zeroCells z.cells (grownCap w (n + m) old e - (n + m))) e)) row := by
    intro old ho row
    have hge := grownCap_ge w (n + m) old e
    have hcm : grownCap w (n + m) old e ≤ maxLen := grownCap_le_maxLen w (n + m) old e h63
    refine ⟨⟨hlen, .inr ⟨w.heap.size, _, _, (0, 0), rfl, hbase, heap_alloc_new w.drew _, .inl rfl, hge, hcm, ?_, ?_⟩⟩, ⟨rfl, rfl, rfl, by simp, fun k hk _ => heap_alloc_old w.drew _ hk⟩⟩
    · simp only [Array.size_append, List.size_toArray, size_zeroCells, hzs, hown.1, hl, ← Nat.add_mul]
      congr 1
      omega
    · simp only [Array.toList_append, List.append_assoc]
      rw [← List.append_assoc, ← hlen]
      exact List.take_left
  rcases hown.2 with ⟨rfl, rfl⟩ | ⟨g, cap, cur, fz, rfl, hbg, hg, hfz, hnc, hcm, hcs, htake⟩
  · have hx : xs = [] := List.eq_nil_of_length_eq_zero (by simpa using hown.1)
    subst hx
    by_cases hm : m = 0
    · subst hm
      have hn : news = [] := List.eq_nil_of_length_eq_zero (by simpa using hl)
      subst hn
      refine ⟨.slice none 0 0, w, ?_, ⟨by simp, .inl ⟨rfl, rfl⟩⟩, ⟨rfl, rfl, rfl, Nat.le_refl _, fun _ _ _ => rfl⟩, Or.inl rfl⟩
      simp [Builtin.append_, run_underlying ht, sizeOf, typeInfo, hi, Builtin.lenOf, Builtin.firstCells, loadCells, loadCellsFrom]
    · have hr := run_append_nil (P := P) w t ty e i z ht hi hz a m c news hl hnews (by omega) (by omega) (by have hb := hbytes; simp only [Nat.zero_add] at hb; omega)
      have hgr := grown 0 (by omega) (blk (.slice none 0 0))
      simp only [Nat.zero_add, List.nil_append, Array.empty_append] at hgr ⊢
      exact ⟨_, _, hr, hgr.1, hgr.2, Or.inr rfl⟩
  · by_cases hroom : n + m ≤ cap
    · have hfit : n * i.size + news.length ≤ cur.size := by rw [hl, hcs, ← Nat.add_mul]; exact Nat.mul_le_mul_right _ hroom
      have hr := run_append_room_fz (P := P) w t ty e i ht hi g n cap cur fz hg hfz.cells a m c news hl hnews h1 hroom hfit
      have hsz : (cur.toList.take (n * i.size) ++ news ++ cur.toList.drop (n * i.size + news.length)).toArray.size = cur.size := by
        simp only [List.size_toArray, List.length_append, List.length_take, List.length_drop, Array.length_toList]
        omega
      refine ⟨_, _, hr, ⟨hlen, .inr ⟨g, cap, _, fz, rfl, hbg, setRow_heap w g cur _ e _ hg, by rw [hsz]; exact hfz, hroom, hcm, by rw [hsz]; exact hcs, ?_⟩⟩, ⟨rfl, rfl, rfl, by simp, fun k _ hk => setRow_other w g k _ (fun e => hk (by simp [blk, e]))⟩, Or.inl rfl⟩
      rw [htake, ← hlen]
      exact List.take_left
    · have holds : ∀ j u, xs[j]? = some u → w.cell? ((⟨g, 0, none⟩ : Addr).add j) = some u := fun j u hj => by
        rw [Addr.add_mid]
        exact own_range hown rfl j u hj
      have hr := run_append_grow (P := P) w t ty e i z ht hi hz ⟨g, 0, none⟩ n cap xs hown.1 holds a m c news hl hnews (by omega) (by omega) (growslice_fits (by omega) hbytes)
      have hgr := grown cap (by omega) (blk (.slice (some ⟨g, 0, none⟩) n cap))
      exact ⟨_, _, hr, hgr.1, hgr.2, Or.inr rfl⟩
end

/-- the data behind a slice value, as append and copy read them -/
def Src (rds : List (Nat × Slot)) (x : AV) (m size : Nat) (cs : List PV) : Prop :=
  ∀ (w0 : World) (A S : Nat → Prop) (mm : Nat → Option Value) (heap : Nat → Slot) (w : World) (u : Value), Mem w0 A S mm heap w → (∀ p ∈ rds, heap p.1 = p.2) → Rep S mm w x u →
    ∃ a c vs, u = .slice a m c ∧ PRepL S w cs vs ∧ vs.length = m * size ∧ (a = none → m = 0) ∧ (∀ ad, a = some ad → ∀ j v, vs[j]? = some v → w.cell? (ad.add j) = some v)
theorem src_sl {m size : Nat} {cs : List PV} : Src [] (.p (.sl m size cs)) m size cs := by
  intro w0 A S mm heap w u hm _ hr
  simp only [Rep, PRep] at hr
  obtain ⟨a, cap, vs, h1, h2, h3, h4, h5⟩ := hr
  have hl := h4.length
  refine ⟨a, cap, vs, h1, h4, by rw [hl, h3], fun ha => ?_, fun ad ha j v hj => ?_⟩
  · rcases h5 with h5 | ⟨b, off, h6, _⟩
    · exact h5
    · rw [ha] at h6; cases h6
  · rcases h5 with h5 | ⟨b, off, h6, h7, h8⟩
    · subst h5
      have : vs = [] := List.eq_nil_of_length_eq_zero (by rw [hl, h3]; simp)
      rw [this] at hj; simp at hj
    · rw [ha] at h6; cases h6
      rw [Addr.add_mid]; exact h8 j v hj
theorem src_nil {size : Nat} : Src [] (.p (.v (.slice none 0 0))) 0 size [] := by
  intro w0 A S mm heap w u hm _ hr
  have := rep_v hr
  subst this
  exact ⟨none, 0, [], rfl, by simp [PRepL], by simp, fun _ => rfl, fun ad h => by cases h⟩
theorem src_row {o : Nat} {e : TypeId} {size n : Nat} {cs : List PV} : Src [(o, .live (.row e size n cs))] (.row o) n size cs := by
  intro w0 A S mm heap w u hm hrd hr
  simp only [Rep] at hr
  obtain ⟨hx, _⟩ := hr
  obtain ⟨v, k1, k2, _⟩ := hm.live o _ (rd1 hrd)
  rw [hx] at k1; cases k1
  obtain ⟨us, j1, j2⟩ := k2
  have hr2 := fun b hb => own_range j2 (b := b) hb
  rcases j2.2 with ⟨rfl, rfl⟩ | ⟨g, cap, cur, fz, rfl, _⟩
  · exact ⟨none, 0, us, rfl, j1, j2.1, fun _ => rfl, fun ad h => by cases h⟩
  · exact ⟨some ⟨g, 0, none⟩, cap, us, rfl, j1, j2.1, fun h => (by cases h), fun ad h j v hj => by cases h; rw [Addr.add_mid]; exact hr2 g rfl j v hj⟩
theorem src_psl {o off m : Nat} {e : TypeId} {size n size' : Nat} {cs ds : List PV} (hk : off + m * size ≤ cs.length) (hd : (cs.drop off).take (m * size) = ds) : Src [(o, .live (.row e size' n cs))] (.psl o off m size) m size ds := by
  intro w0 A S mm heap w u hm hrd hr
  simp only [Rep] at hr
  obtain ⟨a, cap, rfl, h2, h3⟩ := hr
  obtain ⟨v, k1, k2, _⟩ := hm.live o _ (rd1 hrd)
  obtain ⟨us, j1, j2⟩ := k2
  have hl := j1.length
  have hr2 := fun b hb => own_range j2 (b := b) hb
  have hlen : ((us.drop off).take (m * size)).length = m * size := by rw [List.length_take, List.length_drop]; omega
  refine ⟨a, cap, (us.drop off).take (m * size), rfl, hd ▸ (j1.drop off).take _, hlen, fun ha => ?_, fun ad ha j x hj => ?_⟩
  · rcases h3 with h3 | ⟨b, v0, _, _, h6⟩
    · exact h3
    · rw [ha] at h6; cases h6
  · rcases h3 with h3 | ⟨b, v0, h4, h5, h6⟩
    · subst h3
      have : (us.drop off).take (0 * size) = [] := List.eq_nil_of_length_eq_zero (by rw [hlen]; simp)
      rw [this] at hj; simp at hj
    · rw [ha] at h6; cases h6
      rw [k1] at h4; cases h4
      rw [Addr.add_mid]; exact range_sub (hr2 b h5) j x hj
theorem src_box {o off m : Nat} {bt : TypeId} {size : Nat} {cs : List AV} {ds : List PV} (hp : cs.all AV.isP = true) (hk : off + m * size ≤ cs.length) (hd : ((cs.map AV.toP).drop off).take (m * size) = ds) : Src [(o, .live (.box bt cs))] (.psl o off m size) m size ds := by
  intro w0 A S mm heap w u hm hrd hr
  simp only [Rep] at hr
  obtain ⟨a, cap, rfl, h2, h3⟩ := hr
  obtain ⟨v, k1, k2, _⟩ := hm.live o _ (rd1 hrd)
  obtain ⟨b0, us, rfl, _, j1, _, j3⟩ := k2
  rw [← map_toP hp] at j1
  have j1' := repL_prepL j1
  have hl := j1'.length
  rw [List.length_map] at hl
  have hlen : ((us.drop off).take (m * size)).length = m * size := by rw [List.length_take, List.length_drop]; omega
  refine ⟨a, cap, (us.drop off).take (m * size), rfl, hd ▸ (j1'.drop off).take _, hlen, fun ha => ?_, fun ad ha j x hj => ?_⟩
  · rcases h3 with h3 | ⟨b, v0, _, _, h6⟩
    · exact h3
    · rw [ha] at h6; cases h6
  · rcases h3 with h3 | ⟨b, v0, h4, h5, h6⟩
    · subst h3
      have : (us.drop off).take (0 * size) = [] := List.eq_nil_of_length_eq_zero (by rw [hlen]; simp)
      rw [this] at hj; simp at hj
    · rw [ha] at h6; cases h6
      rw [k1] at h4; cases h4
      obtain rfl : b0 = b := by simpa [blk] using h5
      rw [Addr.add_mid]; exact range_sub (box_range j3) j x hj

section
variable {P : Program} {d : Option Tmp} {ty : TypeId} {pos : String} {af : Array Edge} {g : Option (Nat × Bool)}
/-- what the tables say of an element's type: size, bytes, and that its zero has that size -/
def elemOK (P : Program) (e : TypeId) (size bytes : Nat) : Bool :=
  match P.info? e with
  | some i => i.size == size && i.bytes == bytes && (match i.zero with | some z => z.cells.size == size | none => false)
  | none => false
theorem elemOK_spec {e : TypeId} {size bytes : Nat} (h : elemOK P e size bytes = true) : ∃ i z, P.info? e = some i ∧ i.zero = some z ∧ i.size = size ∧ i.bytes = bytes ∧ z.cells.size = size := by
  unfold elemOK at h
  cases hi : P.info? e with
  | none => simp [hi] at h
  | some i =>
    simp only [hi, Bool.and_eq_true, beq_iff_eq] at h
    cases hz : i.zero with
    | none => simp [hz] at h
    | some z => simp [hz] at h; exact ⟨i, z, rfl, hz, h.1.1, h.1.2, h.2⟩

theorem a_append {s x : Operand} {t e : TypeId} {size bytes : Nat} (d' : Nat) {o n m : Nat} {cs ys zs : List PV} {X : AV} {rds : List (Nat × Slot)} (hu : P.underlying t = some (.slice e)) (he : elemOK P e size bytes = true) (hs : Src rds X m size ys)
    (hb1 : n + m ≤ maxLen) (hb2 : (n + m) * bytes ≤ 140737488355328) {k : Nat} (hk : n + m = k) (hz : cs ++ ys = zs) :
    AOp P ⟨d, .call { callee := .builtin .append, args := #[s, x], argTypes := #[t, t] }, ty, pos, af, g⟩ [.row o, X] ((o, .live (.row e size n cs)) :: (d', .un) :: rds) [(d', .live (.row e size k zs)), (o, .dead)] (.row d') := by
  intro w0 A S mm heap w ev hm hR hrd
  have ho : heap o = .live (.row e size n cs) := hrd (o, _) (by simp)
  have hd' : heap d' = .un := hrd (d', _) (by simp)
  obtain ⟨hx, hy⟩ := repL2 (u := ev s) (v := ev x) hR
  obtain ⟨a, c, vs, e1, e2, e3, e4, e5⟩ := hs w0 A S mm heap w _ hm (fun p hp => hrd p (by simp [hp])) hy
  simp only [Rep] at hx
  obtain ⟨hx, _⟩ := hx
  obtain ⟨v, k1, k2, k3⟩ := hm.live o _ ho
  rw [hx] at k1
  have k1 := Option.some.inj k1
  obtain ⟨us, j1, j2⟩ := k2
  obtain ⟨i, z, i1, i2, i3, i4, i5⟩ := elemOK_spec he
  obtain ⟨v', w', hrun, hrow, hg, hblk⟩ := run_append_fz (P := P) w w0.heap.size t ty e i z size bytes hu i1 i2 i3 i4 i5 v n us j2 a m c vs e3 e4 e5 e2.one hb1 hb2 hm.hB
  unfold Out
  have hex : (execOp ev ⟨d, .call { callee := .builtin .append, args := #[s, x], argTypes := #[t, t] }, ty, pos, af, g⟩).run P w = .ok (.value v') w' := by
    simp only [execOp, resolve, invoke, builtin, Sem.run_bind, Sem.run_pure, Result.andThen_ok, List.map_toArray, List.map_cons, List.map_nil, k1, e1, hrun]
  rw [hex]
  have hmd := hm.un d' hd'
  have hbb : ∀ b, blk v = some b → ¬ S b := k3
  have hgr : Grow S mm w S (setM mm d' v') w' := ⟨fun _ h => h, fun b hS => hg.block b (hm.sW b hS) (fun e => hbb b e.symm hS), fun o' u hu => by
    have hne : o' ≠ d' := fun e => by rw [e, hmd] at hu; cases hu
    simpa [setM, hne] using hu⟩
  subst hk
  subst hz
  obtain ⟨f1, f2⟩ := mem_append hm (o := o) (d := d') (v := v) (v' := v') (ob' := .row e size (n + m) (cs ++ ys)) ho hd' (by rw [hx, k1]) hg hblk
    ⟨us ++ vs, PRepL.mono hgr.s hgr.w _ _ (j1.append e2), hrow⟩
  refine ⟨S, _, ?_, f1, f2⟩
  simp only [Rep]
  refine ⟨by simp [setM], ?_⟩
  rcases hrow.2 with ⟨rfl, _⟩ | ⟨g', cap, cur, fz, rfl, _⟩
  · exact ⟨none, 0, 0, rfl⟩
  · exact ⟨_, _, _, rfl⟩
/-- append to nil -/
theorem a_appendNil {s x : Operand} {t e : TypeId} {size bytes : Nat} (d' : Nat) {m : Nat} {ys : List PV} {X : AV} {rds : List (Nat × Slot)} (hu : P.underlying t = some (.slice e)) (he : elemOK P e size bytes = true) (hs : Src rds X m size ys)
    (hb1 : m ≤ maxLen) (hb2 : m * bytes ≤ 140737488355328) :
    AOp P ⟨d, .call { callee := .builtin .append, args := #[s, x], argTypes := #[t, t] }, ty, pos, af, g⟩ [.p (.v (.slice none 0 0)), X] ((d', .un) :: rds) [(d', .live (.row e size m ys))] (.row d') := by
  intro w0 A S mm heap w ev hm hR hrd
  have hd' : heap d' = .un := hrd (d', _) (by simp)
  obtain ⟨hx, hy⟩ := repL2 (u := ev s) (v := ev x) hR
  obtain ⟨a, c, vs, e1, e2, e3, e4, e5⟩ := hs w0 A S mm heap w _ hm (fun p hp => hrd p (by simp [hp])) hy
  have hx := rep_v hx
  obtain ⟨i, z, i1, i2, i3, i4, i5⟩ := elemOK_spec he
  obtain ⟨v', w', hrun, hrow, hg, hblk⟩ := run_append_fz (P := P) w w.heap.size t ty e i z size bytes hu i1 i2 i3 i4 i5 (.slice none 0 0) 0 [] ⟨by simp, .inl ⟨rfl, rfl⟩⟩ a m c vs e3 e4 e5 e2.one (by simpa using hb1) (by simpa using hb2) (Nat.le_refl _)
  unfold Out
  have hex : (execOp ev ⟨d, .call { callee := .builtin .append, args := #[s, x], argTypes := #[t, t] }, ty, pos, af, g⟩).run P w = .ok (.value v') w' := by
    simp only [execOp, resolve, invoke, builtin, Sem.run_bind, Sem.run_pure, Result.andThen_ok, List.map_toArray, List.map_cons, List.map_nil, hx, e1, hrun]
  rw [hex]
  have hb : Below w.heap.size w w' := ⟨hg.os, hg.tape, hg.output, hg.size, fun k hk => hg.block k hk (by simp [blk])⟩
  have hgr := grow_new hm hb hd' v'
  simp only [Nat.zero_add, List.nil_append] at hrow
  have hrow' : RowAt w' w0.heap.size e size v' m vs := by
    refine ⟨hrow.1, ?_⟩
    rcases hrow.2 with h | ⟨g', cap, cur, fz, h1, h2, h3⟩
    · exact .inl h
    · exact .inr ⟨g', cap, cur, fz, h1, Nat.le_trans hm.hB h2, h3⟩
  obtain ⟨f1, f2⟩ := mem_new hm hb d' hd' v' (.row e size m ys) (fun b hb' => by
    rcases hblk with h | h
    · rw [h] at hb'; simp [blk] at hb'
    · rw [h] at hb'; cases hb'; exact Nat.le_refl _) ⟨vs, PRepL.mono hgr.s hgr.w _ _ e2, hrow'⟩
  refine ⟨S, _, ?_, f1, f2⟩
  simp only [Rep]
  refine ⟨by simp [setM], ?_⟩
  rcases hrow.2 with ⟨rfl, _⟩ | ⟨g', cap, cur, fz, rfl, _⟩
  · exact ⟨none, 0, 0, rfl⟩
  · exact ⟨_, _, _, rfl⟩
end
end Go.Proofs.Ytgbgpidimipfjaa
