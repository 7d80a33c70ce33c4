/- The machine over data: make, conversions, literals, calls. -/
import Derived.Test.YtgbgpidimipfjaaAbv
namespace Go.Proofs.Ytgbgpidimipfjaa
open Go.RowKit Go.Sort
set_option linter.unusedVariables false

/-- the bytes of a string -/
def sb (s : ByteArray) : List Int := s.data.toList.map fun c => ((c.toNat : Nat) : Int)
theorem sb_length (s : ByteArray) : (sb s).length = s.size := by simp [sb]

section
variable {P : Program} {d : Option Tmp} {ty : TypeId} {pos : String} {af : Array Edge} {g : Option (Nat × Bool)}
/-! make -/
theorem make_new {x y : Operand} {t e : TypeId} {size bytes : Nat} (d' : Nat) {kl kc : IntKind} {l c : Int} {n : Nat} {cs : List PV} (hu : P.underlying t = some (.slice e)) (he : elemOK P e size bytes = true) (h0 : 0 ≤ l) (hlc : l ≤ c) (hbytes : (bytes : Int) * c ≤ 281474976710656) (hc : c ≤ maxLen) (hn : l.toNat = n)
    (hcs : ∀ z, (P.info? e).map (·.zero) = some (some z) → ∃ us, cs.length = us.length ∧ (∀ S w, PRepL S w cs us) ∧ us.length = n * size ∧ (madeCells z.cells (c.toNat * size)).toList.take (n * size) = us) :
    AOp P ⟨d, .makeSlice t x y, ty, pos, af, g⟩ [.p (.v (.int kl l)), .p (.v (.int kc c))] [(d', .un)] [(d', .live (.row e size n cs))] (.row d') := by
  intro w0 A S mm heap w ev hm hR hrd
  have hd' : heap d' = .un := rd1 hrd
  obtain ⟨hx, hy⟩ := repL2 (u := ev x) (v := ev y) hR
  obtain ⟨i, z, i1, i2, i3, i4, i5⟩ := elemOK_spec he
  have hml : maxLen ≤ 9223372036854775807 := by simp [maxLen]
  have hrun := run_make (P := P) w t e i z hu i1 i2 kl kc l c h0 hlc (by rw [i4]; exact hbytes) (by omega)
  obtain ⟨us, u1, u2, u3, u4⟩ := hcs z (by rw [i1]; simp [i2])
  unfold Out
  have hex : (execOp ev ⟨d, .makeSlice t x y, ty, pos, af, g⟩).run P w = .ok (.value (.slice (some ⟨w.heap.size, 0, none⟩) l.toNat c.toNat)) (w.alloc (.cells (madeCells z.cells (c.toNat * i.size)) e)) := by
    simp only [execOp, rep_v hx, rep_v hy, Sem.run_bind, hrun, Result.andThen_ok, Sem.run_pure]
  rw [hex]
  have hb : Below w.heap.size w (w.alloc (.cells (madeCells z.cells (c.toNat * i.size)) e)) := (Below.refl _ _).alloc (Nat.le_refl _) _
  subst hn
  obtain ⟨f1, f2⟩ := mem_new hm hb d' hd' (.slice (some ⟨w.heap.size, 0, none⟩) l.toNat c.toNat) (.row e size l.toNat cs) (fun b hb => by simp [blk] at hb; omega)
    ⟨us, u2 _ _, u3, .inr ⟨w.heap.size, c.toNat, _, (0, 0), rfl, hm.hB, heap_alloc_new w _, .inl rfl, by omega, by omega, by rw [size_madeCells, i3], by rw [i3]; exact u4⟩⟩
  exact ⟨S, _, by simp only [Rep]; exact ⟨by simp [setM], _, _, _, rfl⟩, f1, f2⟩
theorem a_make0 {x y : Operand} {t e : TypeId} {size bytes : Nat} (d' : Nat) {kl kc : IntKind} {c : Int} (hu : P.underlying t = some (.slice e)) (he : elemOK P e size bytes = true) (h0 : 0 ≤ c) (hbytes : (bytes : Int) * c ≤ 281474976710656) (hc : c ≤ maxLen) :
    AOp P ⟨d, .makeSlice t x y, ty, pos, af, g⟩ [.p (.v (.int kl 0)), .p (.v (.int kc c))] [(d', .un)] [(d', .live (.row e size 0 []))] (.row d') :=
  make_new d' hu he (by omega) h0 hbytes hc rfl fun z _ => ⟨[], rfl, fun _ _ => by simp [PRepL], by simp, by simp⟩
theorem a_make1 {x y : Operand} {t e : TypeId} {bytes : Nat} (d' : Nat) {kl kc : IntKind} {l c : Int} {n : Nat} {z : Value} (hu : P.underlying t = some (.slice e)) (he : elemOK P e 1 bytes = true) (hz : (P.info? e).map (·.zero) = some (some z)) (hz1 : z.oneCell' = true)
    (h0 : 0 ≤ l) (hlc : l ≤ c) (hbytes : (bytes : Int) * c ≤ 281474976710656) (hc : c ≤ maxLen) (hn : l.toNat = n) :
    AOp P ⟨d, .makeSlice t x y, ty, pos, af, g⟩ [.p (.v (.int kl l)), .p (.v (.int kc c))] [(d', .un)] [(d', .live (.row e 1 n (List.replicate n (.v z))))] (.row d') :=
  make_new d' hu he h0 hlc hbytes hc hn fun z' hz' => by
    rw [hz] at hz'
    have : z = z' := by simpa using hz'
    subst this
    refine ⟨List.replicate n z, by simp, fun S w => ?_, by simp, ?_⟩
    · generalize n = k
      induction k with
      | zero => simp [PRepL]
      | succ k ih => simp only [List.replicate_succ, PRepL, PRep]; exact ⟨z, _, rfl, ⟨rfl, hz1⟩, ih⟩
    · rw [cells_one hz1, Nat.mul_one, toList_madeCells_one, List.take_replicate, Nat.mul_one]
      congr 1
      omega
/-! conversions -/
theorem a_s2b {x : Operand} {src dst e : TypeId} {ds : TypeDesc} (d' : Nat) {s : ByteArray} {n : Nat} {xs : List Int} (hs : P.underlying src = some ds) (hd : P.underlying dst = some (.slice e)) (he : P.underlying e = some (.int .u8)) (hl : s.size ≤ maxLen) (hn : s.size = n) (hx : sb s = xs) :
    AOp P ⟨d, .convert src dst x, ty, pos, af, g⟩ [.p (.v (.string s))] [(d', .un)] [(d', .live (.row e 1 n (bs xs)))] (.row d') := by
  intro w0 A S mm heap w ev hm hR hrd
  have hd' : heap d' = .un := rd1 hrd
  have h1 := rep_v (repL1 (x := .p (.v (.string s))) (u := ev x) hR)
  have hrun := Lib.run_convert_string_bytes (P := P) w src dst e s hs hd he
  unfold Out
  have hex : (execOp ev ⟨d, .convert src dst x, ty, pos, af, g⟩).run P w = .ok (.value (.slice (some ⟨w.heap.size, 0, none⟩) s.size (grownCap w s.size 0 e))) (Lib.bytesWorld w e s) := by
    simp only [execOp, h1, Sem.run_bind, hrun, Result.andThen_ok, Sem.run_pure]
  rw [hex]
  have hsz := Lib.bytesWorld_size w e s
  have hb : Below w.heap.size w (Lib.bytesWorld w e s) := ⟨rfl, rfl, rfl, by omega, fun k hk => Lib.bytesWorld_at_old w e s k hk⟩
  have hge := grownCap_ge w s.size 0 e
  have hcm := grownCap_le_maxLen w s.size 0 e hl
  have hcur : (Lib.bytesCells w e s).size = grownCap w s.size 0 e := by simp [Lib.bytesCells]; omega
  subst hn
  subst hx
  obtain ⟨f1, f2⟩ := mem_new hm hb d' hd' (.slice (some ⟨w.heap.size, 0, none⟩) s.size (grownCap w s.size 0 e)) (.row e 1 s.size (bs (sb s))) (fun b hb => by simp [blk] at hb; omega)
    ⟨(sb s).map (Value.int .u8), bs_mk _ _ _, by simp [sb_length], .inr ⟨w.heap.size, _, _, _, rfl, hm.hB, Lib.bytesWorld_at_new w e s, .inr (Nat.le_refl _), hge, hcm, by rw [hcur, Nat.mul_one], by
      rw [Nat.mul_one]
      have h2 : (s.data.map fun b => Value.int .u8 b.toNat).toList.length = s.size := by simp
      rw [Lib.bytesCells, Array.toList_append, ← h2, List.take_left]
      simp [sb]⟩⟩
  exact ⟨S, _, by simp only [Rep]; exact ⟨by simp [setM], _, _, _, rfl⟩, f1, f2⟩
theorem a_b2s {x : Operand} {src dst e : TypeId} {X : AV} {rds : List (Nat × Slot)} {n : Nat} {cs : List PV} {xs : List Int} {u : ByteArray} (hs : P.underlying src = some (.slice e)) (he : P.underlying e = some (.int .u8)) (hd : P.underlying dst = some .string)
    (hsrc : Src rds X n 1 cs) (hc : cs = bs xs) (hu : strOfNums xs = u) :
    AOp P ⟨d, .convert src dst x, ty, pos, af, g⟩ [X] rds [] (.p (.v (.string u))) :=
  aop_read fun w0 A S m heap w ev hm hR hrd => by
    obtain ⟨a, c, vs, e1, e2, e3, e4, e5⟩ := hsrc w0 A S m heap w _ hm hrd (repL1 (u := ev x) hR)
    subst hc
    have e6 := bs_rep e2
    subst e6
    refine ⟨.string u, ?_, rep_mk rfl⟩
    have hl : xs.length = n := by simpa using e3
    rcases a with _ | a
    · have h0 := e4 rfl
      subst h0
      have : xs = [] := List.eq_nil_of_length_eq_zero hl
      subst this
      simp only [execOp, e1, Sem.run_bind, run_convert_bytes_nil w src e hs he 0 c dst hd, Result.andThen_ok, Sem.run_pure]
      rw [← hu]; rfl
    · have hload : (loadCells a n).run P w = .ok (xs.map (Value.int .u8)).toArray w := by
        have := run_loadCells_list (P := P) w a (xs.map (Value.int .u8)) (e5 a rfl)
        simpa [hl] using this
      have hrun : (convert src dst (.slice (some a) n c)).run P w = .ok (.string (strOfNums xs)) w := by
        rw [run_convert_bytes_string w src dst e _ n c hs he hd, run_bytesToString w a n c xs hload, foldl_push_bytes]
        simp [strOfNums, ByteArray.empty, ByteArray.emptyWithCapacity]
        rfl
      simp only [execOp, e1, Sem.run_bind, hrun, Result.andThen_ok, Sem.run_pure]
      rw [hu]

/-! literals -/
def fillA (place : Nat → Option (Nat × Nat)) : List AV → List (Nat × AV) → Option (List AV)
  | cells, [] => some cells
  | cells, (i, x) :: rest => match place i with
    | none => none
    | some (off, size) => if x.cells.length = size ∧ off + size ≤ cells.length ∧ x.stor = true then fillA place (setR cells off x.cells) rest else none
theorem foldl_setR : ∀ (vs : List Value) (cs : Array Value) (off k : Nat), off + k + vs.length ≤ cs.size →
    ((vs.zipIdx k).foldl (fun cs (c, j) => cs.setIfInBounds (off + j) c) cs).toList = setR cs.toList (off + k) vs
  | [], cs, off, k, _ => by simp [setR]
  | v :: vs, cs, off, k, h => by
    rw [List.zipIdx_cons, List.foldl_cons, foldl_setR vs _ off (k + 1) (by simp at h ⊢; omega)]
    unfold setR
    have e := list_seg_step cs.toList (off + k) v vs (by simp at h ⊢; omega)
    simp only [Array.toList_setIfInBounds]
    rw [show off + (k + 1) = off + k + 1 by omega]
    exact e
theorem fill_rep {S : Nat → Prop} {m : Nat → Option Value} {w : World} {place : Nat → Option (Nat × Nat)} : ∀ {parts : List (Nat × AV)} {vals : List (Nat × Value)} {cells es : List AV} {us : Array Value},
    RepL S m w cells us.toList → (∀ x ∈ us.toList, x.oneCell' = true) → RepL S m w (parts.map Prod.snd) (vals.map Prod.snd) → parts.map Prod.fst = vals.map Prod.fst → fillA place cells parts = some es →
      ∃ us', Instr.fill place us vals = some us' ∧ RepL S m w es us'.toList ∧ ∀ x ∈ us'.toList, x.oneCell' = true
  | [], vals, cells, es, us, h1, h2, h3, h4, h5 => by
    have : vals = [] := by cases vals with | nil => rfl | cons a b => simp at h4
    subst this
    simp only [fillA, Option.some.injEq] at h5
    subst h5
    exact ⟨us, rfl, h1, h2⟩
  | (i, x) :: parts, vals, cells, es, us, h1, h2, h3, h4, h5 => by
    cases vals with
    | nil => simp at h4
    | cons a vals =>
      obtain ⟨i', v⟩ := a
      simp only [List.map_cons, List.cons.injEq] at h4
      obtain ⟨rfl, h4⟩ := h4
      simp only [List.map_cons, RepL] at h3
      obtain ⟨u, us2, h6, h7, h8⟩ := h3
      simp only [List.cons.injEq] at h6
      obtain ⟨rfl, rfl⟩ := h6
      simp only [fillA] at h5
      cases hp : place i with
      | none => simp [hp] at h5
      | some os =>
        obtain ⟨off, size⟩ := os
        simp only [hp] at h5
        split at h5
        · rename_i hc
          obtain ⟨c1, c2, c3⟩ := hc
          obtain ⟨k1, k2⟩ := cells_rep h7 c3
          have hl := k1.length
          have hlu := h1.length
          have hvs : v.cells.size = size := by rw [← c1, ← hl]; simp
          have hus : us.size = cells.length := by rw [← hlu]; simp
          have hcell : (v.cells.zipIdx.foldl (fun cs (c, j) => cs.setIfInBounds (off + j) c) us).toList = setR us.toList off v.cells.toList := by
            rw [← Array.foldl_toList, Array.toList_zipIdx]
            have := foldl_setR v.cells.toList us off 0 (by simp; omega)
            simpa using this
          have hone : ∀ y ∈ setR us.toList off v.cells.toList, y.oneCell' = true := by
            intro z hz
            simp only [setR, List.mem_append] at hz
            rcases hz with (hz | hz) | hz
            · exact h2 z (List.mem_of_mem_take hz)
            · exact k2 z hz
            · exact h2 z (List.mem_of_mem_drop hz)
          obtain ⟨us', e1, e2, e3⟩ := fill_rep (place := place) (parts := parts) (vals := vals) (cells := setR cells off x.cells) (es := es) (us := v.cells.zipIdx.foldl (fun cs (c, j) => cs.setIfInBounds (off + j) c) us)
            (by rw [hcell]; exact h1.setR off k1) (by rw [hcell]; exact hone) h8 h4 h5
          refine ⟨us', ?_, e2, e3⟩
          simp only [Instr.fill, hp, hvs]
          rw [if_neg (by simp; omega)]
          exact e1
        · cases h5
/-- the operands of a literal's parts -/
theorem parts_rep {S : Nat → Prop} {m : Nat → Option Value} {w : World} {ev : Operand → Value} : ∀ {parts : List (Nat × Operand)} {xs : List AV}, RepL S m w xs ((parts.map Prod.snd).map ev) →
    RepL S m w (((parts.map Prod.fst).zip xs).map Prod.snd) ((parts.map fun p => (p.1, ev p.2)).map Prod.snd) ∧ ((parts.map Prod.fst).zip xs).map Prod.fst = (parts.map fun p => (p.1, ev p.2)).map Prod.fst
  | [], xs, h => by simp [RepL]
  | p :: parts, xs, h => by
    cases xs with
    | nil => simp [RepL] at h
    | cons x xs =>
      simp only [List.map_cons, RepL] at h
      obtain ⟨u, us, h1, h2, h3⟩ := h
      simp only [List.cons.injEq] at h1
      obtain ⟨rfl, rfl⟩ := h1
      obtain ⟨k1, k2⟩ := parts_rep (parts := parts) h3
      simp only [List.map_cons, List.zip_cons_cons, RepL]
      exact ⟨⟨_, _, rfl, h2, k1⟩, by rw [k2]⟩
theorem a_build {t : TypeId} {parts : Array (Nat × Operand)} {z : Value} {fs : Array Field} {places : Array (Nat × Nat)} {xs es : List AV} (hu : P.underlying t = some (.struct fs)) (hz : (P.info? t).map (·.zero) = some (some z)) (hz1 : (constAV z).stor = true)
    (hp : ∀ w, (fs.mapM (fun f => do pure (f.offset, ← sizeOf f.type)) : Sem (Array (Nat × Nat))).run P w = .ok places w) (hf : fillA (places[·]?) (constAV z).cells ((parts.toList.map Prod.fst).zip xs) = some es) :
    AOp P ⟨d, .build t parts, ty, pos, af, g⟩ xs [] [] (.agg es) :=
  aop_pure fun S m w ev hr => by
    have hr' : RepL S m w xs ((parts.toList.map Prod.snd).map ev) := by simpa [Op.operands] using hr
    obtain ⟨k1, k2⟩ := parts_rep hr'
    obtain ⟨c1, c2⟩ := cells_rep (constAV_rep S m w z) hz1
    obtain ⟨us', e1, e2, e3⟩ := fill_rep (us := z.cells) c1 c2 k1 k2 hf
    refine ⟨.agg us', ?_, by simp only [Rep]; exact ⟨us'.toList, by simp, e2, e3⟩⟩
    cases hq : P.info? t with
    | none => simp [hq] at hz
    | some i =>
      simp [hq] at hz
      have e1' : Instr.fill (fun x => places[x]?) z.cells (List.map (fun p => (p.fst, ev p.snd)) parts.toList) = some us' := e1
      simp only [execOp, Instr.build, zeroValue, typeInfo, Sem.run_bind, run_program, Result.andThen_ok, hq, Sem.run_pure, hz, run_underlying hu, hp w, Array.toList_map]
      simp only [e1', Sem.run_pure, Result.andThen_ok]
theorem a_buildA {t e : TypeId} {n k : Nat} {parts : Array (Nat × Operand)} {z : Value} {xs es : List AV} (hu : P.underlying t = some (.array n e)) (hz : (P.info? t).map (·.zero) = some (some z)) (hz1 : (constAV z).stor = true) (hi : (P.info? e).map (·.size) = some k)
    (hf : fillA (fun i => some (i * k, k)) (constAV z).cells ((parts.toList.map Prod.fst).zip xs) = some es) :
    AOp P ⟨d, .build t parts, ty, pos, af, g⟩ xs [] [] (.agg es) :=
  aop_pure fun S m w ev hr => by
    have hr' : RepL S m w xs ((parts.toList.map Prod.snd).map ev) := by simpa [Op.operands] using hr
    obtain ⟨k1, k2⟩ := parts_rep hr'
    obtain ⟨c1, c2⟩ := cells_rep (constAV_rep S m w z) hz1
    obtain ⟨us', e1, e2, e3⟩ := fill_rep (us := z.cells) c1 c2 k1 k2 hf
    refine ⟨.agg us', ?_, by simp only [Rep]; exact ⟨us'.toList, by simp, e2, e3⟩⟩
    cases hq : P.info? t with
    | none => simp [hq] at hz
    | some i =>
      simp [hq] at hz
      have e1' : Instr.fill (fun i => some (i * k, k)) z.cells (List.map (fun p => (p.fst, ev p.snd)) parts.toList) = some us' := e1
      simp only [execOp, Instr.build, zeroValue, typeInfo, Sem.run_bind, run_program, Result.andThen_ok, hq, Sem.run_pure, hz, run_underlying hu, run_sizeOf hi, Array.toList_map]
      simp only [e1', Sem.run_pure, Result.andThen_ok]
theorem a_buildSlice {t e : TypeId} {len size : Nat} (d' : Nat) {parts : Array (Nat × Operand)} {z0 : Array Value} {xs es : List AV} {cs : List PV} (hu : P.underlying t = some (.slice e)) (hi : (P.info? e).map (·.size) = some size) (hz : (P.info? e).map (fun i => i.zero.map Value.cells) = some (some z0))
    (hl : len * size ≤ 2 ^ 24) (hl0 : 0 < len * size) (h1 : z0.toList.all (fun x => x.oneCell') = true)
    (hf : fillA (fun i => some (i * size, size)) (((List.range (len * size)).map fun i => (AV.p (.v (z0.getD (i % z0.size) default))))) ((parts.toList.map Prod.fst).zip xs) = some es) (hes : es.all AV.isP = true) (hcs : es.map AV.toP = cs) (hzs : 0 < z0.size) :
    AOp P ⟨d, .buildSlice t len parts, ty, pos, af, g⟩ xs [(d', .un)] [(d', .live (.row e size len cs))] (.row d') := by
  intro w0 A S mm heap w ev hm hR hrd
  have hd' : heap d' = .un := rd1 hrd
  have hr' : RepL S mm w xs ((parts.toList.map Prod.snd).map ev) := by simpa [Op.operands] using hR
  obtain ⟨k1, k2⟩ := parts_rep hr'
  have h1' : ∀ x ∈ z0.toList, x.oneCell' = true := by simpa only [List.all_eq_true] using h1
  have hget : ∀ i, (z0[i % z0.size]!).oneCell' = true ∧ z0[i % z0.size]! = z0.getD (i % z0.size) default := fun i => by
    have hlt := Nat.mod_lt i hzs
    rw [getElem!_pos z0 _ hlt]
    refine ⟨h1' _ (by simp), ?_⟩
    simp [Array.getD_eq_getD_getElem?, hlt]
  have c1 : RepL S mm w ((List.range (len * size)).map fun i => (AV.p (.v (z0.getD (i % z0.size) default)))) ((Array.range (len * size)).map (z0[· % z0.size]!)).toList := by
    have : ((Array.range (len * size)).map (z0[· % z0.size]!)).toList = (List.range (len * size)).map (fun i => z0[i % z0.size]!) := by simp [Array.toList_range]
    rw [this]
    generalize List.range (len * size) = l
    induction l with
    | nil => simp [RepL]
    | cons i l ih =>
      simp only [List.map_cons, RepL, Rep, PRep]
      exact ⟨_, _, rfl, ⟨(hget i).2, (hget i).2 ▸ (hget i).1⟩, ih⟩
  have c2 : ∀ x ∈ ((Array.range (len * size)).map (z0[· % z0.size]!)).toList, x.oneCell' = true := by
    intro x hx
    simp only [Array.toList_map, List.mem_map] at hx
    obtain ⟨i, _, rfl⟩ := hx
    exact (hget i).1
  obtain ⟨us', e1, e2, e3⟩ := fill_rep c1 c2 k1 k2 hf
  have hlen : us'.size = len * size := by
    have : ∀ {place : Nat → Option (Nat × Nat)} {cells es : List AV} {ps : List (Nat × AV)}, fillA place cells ps = some es → es.length = cells.length := by
      intro place cells es ps
      induction ps generalizing cells with
      | nil => intro h; simp only [fillA, Option.some.injEq] at h; rw [h]
      | cons p ps ih =>
        obtain ⟨i, x⟩ := p
        intro h
        simp only [fillA] at h
        cases hp : place i with
        | none => simp [hp] at h
        | some os =>
          obtain ⟨off, sz⟩ := os
          simp only [hp] at h
          split at h
          · rename_i hc
            rw [ih h, setR_length (by omega)]
          · cases h
    have := this hf
    have h3 := e2.length
    simp at this h3
    omega
  have hex : (execOp ev ⟨d, .buildSlice t len parts, ty, pos, af, g⟩).run P w = .ok (.value (.slice (some ⟨w.heap.size, 0, none⟩) len len)) (w.alloc (.cells us' e)) := by
    cases hq : P.info? e with
    | none => simp [hq] at hi
    | some i =>
      simp [hq] at hi hz
      obtain ⟨z, hz1, hz2⟩ := hz
      have e1' : Instr.fill (fun i => some (i * size, size)) ((Array.range (len * size)).map (z0[· % z0.size]!)) (List.map (fun p => (p.fst, ev p.snd)) parts.toList) = some us' := e1
      have hlim : ¬ (len * size > 2 ^ 24) := by omega
      have h0 : ¬ (len * size = 0) := by omega
      simp only [execOp, Instr.buildSlice, Sem.run_bind, run_underlying hu, Result.andThen_ok, run_sizeOf (P := P) (t := e) (n := size) (by rw [hq]; simp [hi]), hlim, if_false, h0, zeroValue, typeInfo, run_program, hq, hz1, Sem.run_pure, Array.toList_map, Sem.run_ite, hz2]
      simp only [e1', newRow, Sem.run_bind, run_newObj, Result.andThen_ok, Sem.run_pure]
      rfl
  unfold Out
  rw [hex]
  have hb : Below w.heap.size w (w.alloc (.cells us' e)) := (Below.refl _ _).alloc (Nat.le_refl _) _
  have hgr := grow_new hm hb hd' (.slice (some ⟨w.heap.size, 0, none⟩) len len)
  have hmax : len ≤ maxLen := by
    have hsz : 1 ≤ size := by
      rcases Nat.eq_zero_or_pos size with h | h
      · subst h; simp at hl0
      · exact h
    have : len * 1 ≤ len * size := Nat.mul_le_mul_left _ hsz
    simp only [maxLen]
    omega
  rw [← map_toP hes, hcs] at e2
  have e2' := repL_prepL e2
  obtain ⟨f1, f2⟩ := mem_new hm hb d' hd' (.slice (some ⟨w.heap.size, 0, none⟩) len len) (.row e size len cs) (fun b hb => by simp [blk] at hb; omega)
    ⟨us'.toList, PRepL.mono hgr.s hgr.w _ _ e2', by simp [hlen], .inr ⟨w.heap.size, len, us', (0, 0), rfl, hm.hB, heap_alloc_new w _, .inl rfl, Nat.le_refl _, hmax, hlen, List.take_of_length_le (by rw [Array.length_toList, hlen]; exact Nat.le_refl _)⟩⟩
  exact ⟨S, _, by simp only [Rep]; exact ⟨by simp [setM], _, _, _, rfl⟩, f1, f2⟩
end
end Go.Proofs.Ytgbgpidimipfjaa
