/- Contracts of functions out of what the kit tells of their calls. -/
import Derived.Test.YtgbgpidimipfjaaAbm
namespace Go.Proofs.Ytgbgpidimipfjaa
open Go.RowKit Go.Sort
set_option linter.unusedVariables false

/-- a call that gives one plain value and turns nothing that was there -/
theorem fn_below {P : Program} {f : FuncId} {args : List AV} {r : Value} (hr : r.oneCell' = true) (h : ∀ (w : World) (A : Nat → Prop) (us : List Value), (∀ b, A b → b < w.heap.size) → RepL A (fun _ => none) w args us →
    Calls P f us.toArray w fun e w' => e = .returned r ∧ Below w.heap.size w w') : Fn P f args (.p (.v r)) [] := by
  intro w A us hA hus
  refine (h w A us hA hus).mono ?_
  rintro e w' ⟨rfl, hb⟩
  refine ⟨r, rfl, A, fun _ => none, by simp only [Rep, PRep, true_and]; exact hr, hb, fun b hb => .inl hb, fun b h => Nat.lt_of_lt_of_le (hA b h) hb.size, fun o _ => rfl, fun o ob ho => (by cases ho), fun o o' ob ob' v v' b ho => (by cases ho)⟩
theorem repL_vs {S : Nat → Prop} {m : Nat → Option Value} {w : World} : ∀ {vs us : List Value}, RepL S m w (vs.map fun v => .p (.v v)) us → us = vs
  | [], us, h => by simpa only [List.map_nil, RepL] using h
  | v :: vs, us, h => by
    simp only [List.map_cons, RepL] at h
    obtain ⟨u, us, rfl, h2, h3⟩ := h
    simp only [Rep, PRep] at h2
    rw [h2.1, repL_vs h3]
/-- a call over plain values that gives one plain value and leaves the world -/
theorem fn_plain {P : Program} {f : FuncId} (vs : List Value) {r : Value} (hr : r.oneCell' = true) (h : ∀ w : World, Calls P f vs.toArray w fun e w' => e = .returned r ∧ w' = w) : Fn P f (vs.map fun v => .p (.v v)) (.p (.v r)) [] := by
  refine fn_below hr fun w A us hA hus => ?_
  rw [repL_vs hus]
  exact (h w).mono fun e w' ⟨h1, h2⟩ => ⟨h1, by rw [h2]; exact Below.refl _ _⟩
/-- a nil slice is a row of no elements -/
theorem re_nil {st : St} (t o e size : Nat) (ht : st.tmps t = .p (.v (.slice none 0 0))) (ho : st.heap o = .un) : Re st ((st.upd [(o, .live (.row e size 0 []))]).put (some t) (.row o)) := by
  rintro w0 A nt a w ⟨⟨S, m, hm, hj, hr⟩, hsz, hd⟩
  have hmo := hm.un o ho
  have g : Grow S m w S (fun x => if x = o then some (.slice none 0 0) else m x) w := ⟨fun _ h => h, fun _ _ => rfl, fun x v h => by
    by_cases hx : x = o
    · subst hx; rw [hmo] at h; cases h
    · simp only [if_neg hx]; exact h⟩
  refine ⟨⟨S, fun x => if x = o then some (.slice none 0 0) else m x, ?_, trivial, fun t' => ?_⟩, hsz, hd⟩
  · rw [put_heap]
    refine ⟨hm.bel, hm.sA, hm.sW, fun x hx => ?_, fun x ob hx => ?_, fun x x' ob ob' v v' b hx hx' hv hv' hb hb' => ?_⟩
    · by_cases e1 : x = o
      · subst e1; simp [St.upd, updL] at hx
      · simp only [if_neg e1]
        refine hm.un x ?_
        simpa [St.upd, updL, nbeq e1] using hx
    · by_cases e1 : x = o
      · subst e1
        simp [St.upd, updL] at hx
        subst hx
        refine ⟨.slice none 0 0, by simp, ⟨[], by simp [PRepL], by simp, .inl ⟨rfl, rfl⟩⟩, fun b hb => by simp [blk] at hb⟩
      · have hx' : st.heap x = .live ob := by simpa [St.upd, updL, nbeq e1] using hx
        obtain ⟨v, h1, h2, h3⟩ := hm.live x ob hx'
        exact ⟨v, by simp only [if_neg e1]; exact h1, h2.mono g fun _ _ => rfl, h3⟩
    · by_cases e1 : x = o
      · subst e1; simp at hv; subst hv; simp [blk] at hb
      · by_cases e2 : x' = o
        · subst e2; simp at hv'; subst hv'; simp [blk] at hb'
        · simp only [if_neg e1] at hv
          simp only [if_neg e2] at hv'
          exact hm.inj x x' ob ob' v v' b (by simpa [St.upd, updL, nbeq e1] using hx) (by simpa [St.upd, updL, nbeq e2] using hx') hv hv' hb hb'
  · by_cases e1 : t' = t
    · subst e1
      have := hr t'
      rw [ht] at this
      simp only [Rep, PRep] at this
      simp only [St.put, Nat.beq_refl, cond_true, Rep]
      rw [this.1]
      exact ⟨by simp, _, _, _, rfl⟩
    · have hb : Nat.beq t' t = false := nbeq e1
      simp only [St.put, hb, cond_false, St.upd]
      exact Rep.mono g _ _ (hr t')
section
variable {P : Program} {d : Option Tmp} {ty : TypeId} {pos : String} {af : Array Edge} {g : Option (Nat × Bool)}
theorem a_buildSlice0 {t e : TypeId} {size : Nat} (d' : Nat) (hu : P.underlying t = some (.slice e)) (hi : (P.info? e).map (·.size) = some size) :
    AOp P ⟨d, .buildSlice t 0 #[], ty, pos, af, g⟩ [] [(d', .un)] [(d', .live (.row e size 0 []))] (.row d') := by
  intro w0 A S mm heap w ev hm hR hrd
  have hd' : heap d' = .un := rd1 hrd
  have hex : (execOp ev ⟨d, .buildSlice t 0 #[], ty, pos, af, g⟩).run P w = .ok (.value (.slice (some ⟨w.heap.size, 0, none⟩) 0 0)) (w.alloc (.cells #[] e)) := by
    cases hq : P.info? e with
    | none => simp [hq] at hi
    | some i =>
      simp [hq] at hi
      simp only [execOp, Instr.buildSlice, Sem.run_bind, run_underlying hu, Result.andThen_ok, run_sizeOf (P := P) (t := e) (n := size) (by rw [hq]; simp [hi]), Nat.zero_mul, show ¬ (0 > 2 ^ 24) by omega, if_false, if_true, Sem.run_pure]
      simp [Instr.fill, newRow, show Array.range 0 = #[] from rfl]

  unfold Out
  rw [hex]
  have hb : Below w.heap.size w (w.alloc (.cells #[] e)) := (Below.refl _ _).alloc (Nat.le_refl _) _
  have hgr := grow_new hm hb hd' (.slice (some ⟨w.heap.size, 0, none⟩) 0 0)
  obtain ⟨f1, f2⟩ := mem_new hm hb d' hd' (.slice (some ⟨w.heap.size, 0, none⟩) 0 0) (.row e size 0 []) (fun b hb => by simp [blk] at hb; omega)
    ⟨[], by simp [PRepL], by simp, .inr ⟨w.heap.size, 0, #[], (0, 0), rfl, hm.hB, heap_alloc_new w _, .inl rfl, Nat.le_refl _, Nat.zero_le _, by simp, by simp⟩⟩
  exact ⟨S, _, by simp only [Rep]; exact ⟨by simp [setM], _, _, _, rfl⟩, f1, f2⟩
end
/-! ### bytes -/
/-- bytes -/
def isB (l : List Int) : Prop := ∀ x ∈ l, 0 ≤ x ∧ x < 256
theorem setR_one {α : Type} {l : List α} {i : Nat} {x : α} (h : i < l.length) : setR l i [x] = l.set i x := by
  rw [List.set_eq_take_append_cons_drop, if_pos h]
  simp [setR]
theorem bs_at {xs : List Int} {i : Nat} {x : Int} (h : xs[i]? = some x) : (bs xs)[i]? = some (.v (.int .u8 x)) := by simp [bs, h]
theorem bs_set {xs : List Int} {i : Nat} {x : Int} (h : i < xs.length) : setR (bs xs) i [.v (.int .u8 x)] = bs (xs.set i x) := by
  rw [setR_one (by simpa [bs] using h), bs, bs, List.map_set]
theorem bs_push {xs : List Int} {x : Int} : bs xs ++ [.v (.int .u8 x)] = bs (xs ++ [x]) := by simp [bs]
theorem bs_appd {xs ys : List Int} : bs xs ++ bs ys = bs (xs ++ ys) := by simp [bs]
theorem bs_len {xs : List Int} : (bs xs).length = xs.length := by simp [bs]
theorem sb_isB (s : ByteArray) : isB (sb s) := by
  intro x hx
  obtain ⟨c, _, rfl⟩ := List.mem_map.1 hx
  have := c.toNat_lt
  omega
/-- the byte at a place of a string -/
def sAt (s : ByteArray) (i : Nat) : Int := (sb s).getD i 0
theorem sb_at {s : ByteArray} {i : Nat} (h : i < s.size) : (sb s)[i]? = some (sAt s i) := by
  have h' : i < (sb s).length := by rw [sb_length]; exact h
  rw [sAt, List.getD_eq_getElem?_getD, List.getElem?_eq_getElem h']; rfl
theorem sAt_get {s : ByteArray} {i : Nat} (h : i < s.size) : (s.data.toList[i]?).map (fun b : UInt8 => ((b.toNat : Nat) : Int)) = some (sAt s i) := by
  rw [← sb_at h, sb, List.getElem?_map]
theorem sAt_B {s : ByteArray} {i : Nat} (h : i < s.size) : 0 ≤ sAt s i ∧ sAt s i < 256 := sb_isB s _ (List.mem_of_getElem? (sb_at h))
theorem i64_and_one (n : Nat) (hn : n < 9223372036854775808) : bits .and .i64 (n : Int) 1 = ((n % 2 : Nat) : Int) := by
  have e : (1 : Int) = ((1 : Nat) : Int) := rfl
  have h1 : (BitVec.ofInt 64 (n : Int)).toNat = n := by
    rw [BitVec.ofInt_natCast, BitVec.toNat_ofNat]; exact Nat.mod_eq_of_lt (by omega)
  have h2 : (BitVec.ofInt 64 (1 : Int)).toNat = 1 := by decide
  show IntKind.i64.wrap ((BitVec.ofInt 64 (n : Int) &&& BitVec.ofInt 64 1).toNat : Int) = _
  rw [BitVec.toNat_and, h1, h2, Nat.and_one_is_mod, IntKind.wrap_i64]
  omega
end Go.Proofs.Ytgbgpidimipfjaa
