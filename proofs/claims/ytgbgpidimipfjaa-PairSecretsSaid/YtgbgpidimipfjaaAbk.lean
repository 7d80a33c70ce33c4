/- copy, over data. -/
import Derived.Test.YtgbgpidimipfjaaAbc
import Derived.Laws.CopyRow
namespace Go.Proofs.Ytgbgpidimipfjaa
open Go.RowKit Go.Sort
set_option linter.unusedVariables false
theorem mem_turn {w0 : World} {A S : Nat → Prop} {m : Nat → Option Value} {heap : Nat → Slot} {w w' : World} (hm : Mem w0 A S m heap w) {o : Nat} {ob ob' : AObj} {v : Value} {b : Nat} (hl : heap o = .live ob) (hv : m o = some v) (hb : blk v = some b)
    (q1 : w'.os = w.os) (q2 : w'.tape = w.tape) (q3 : w'.output = w.output) (q4 : w'.heap.size = w.heap.size) (q5 : ∀ k, k ≠ b → w'.heap[k]? = w.heap[k]?) (ho : ORep w0.heap.size S m w' ob' v) :
    Mem w0 A S m (updL heap [(o, .live ob')]) w' ∧ Grow S m w S m w' := by
  obtain ⟨v', k1, k2, k3⟩ := hm.live o ob hl
  rw [hv] at k1; cases k1
  have hlt := k2.lt hb
  have g : Grow S m w S m w' := ⟨fun _ h => h, fun c hS => q5 c (fun e => k3 b hb (e ▸ hS)), fun _ _ h => h⟩
  have hbw : Below w0.heap.size w w' := ⟨q1, q2, q3, by omega, fun k hk => q5 k (by omega)⟩
  refine ⟨⟨hm.bel.trans hbw, hm.sA, fun b' h => by have := hm.sW b' h; omega, fun o' ho' => ?_, fun o' ob2 ho' => ?_, fun o1 o2 ob1 ob2 v1 v2 b' h1 h2 h3 h4 h5 h6 => ?_⟩, g⟩
  · by_cases e : o' = o
    · subst e; simp [updL] at ho'
    · simp only [updL, nbeq e, cond_false] at ho'
      exact hm.un o' ho'
  · by_cases e : o' = o
    · subst e
      simp only [updL, Nat.beq_refl, cond_true, Slot.live.injEq] at ho'
      subst ho'
      exact ⟨v, hv, ho, k3⟩
    · simp only [updL, nbeq e, cond_false] at ho'
      obtain ⟨u, j1, j2, j3⟩ := hm.live o' ob2 ho'
      exact ⟨u, j1, j2.mono g fun b' hb' => q5 b' (fun eb => by subst eb; exact e (hm.inj _ _ _ _ _ _ _ ho' hl j1 hv hb' hb)), j3⟩
  · have key : ∀ {x : Nat} {obx : AObj}, updL heap [(o, .live ob')] x = .live obx → ∃ oby, heap x = .live oby := by
      intro x obx hx
      by_cases e : x = o
      · subst e; exact ⟨ob, hl⟩
      · simp only [updL, nbeq e, cond_false] at hx; exact ⟨obx, hx⟩
    obtain ⟨_, g1⟩ := key h1
    obtain ⟨_, g2⟩ := key h2
    exact hm.inj _ _ _ _ _ _ _ g1 g2 h3 h4 h5 h6
section
variable {P : Program} {d : Option Tmp} {ty : TypeId} {pos : String} {af : Array Edge} {g : Option (Nat × Bool)}
/-- copy to the head of a row, of no more than it has -/
theorem a_copy {s x : Operand} {t t2 e : TypeId} {o n m : Nat} {cs ys es : List PV} {X : AV} {rds : List (Nat × Slot)} (hu : P.underlying t = some (.slice e)) (hi : (P.info? e).map (·.size) = some 1) (hs : Src rds X m 1 ys) (h1 : 1 ≤ m) (hmn : m ≤ n) (hcs : cs.length = n) (h : setR cs 0 ys = es) :
    AOp P ⟨d, .call { callee := .builtin .copy, args := #[s, x], argTypes := #[t, t2] }, ty, pos, af, g⟩ [.row o, X] ((o, .live (.row e 1 n cs)) :: rds) [(o, .live (.row e 1 n es))] (.p (.v (.int .i64 m))) := by
  intro w0 A S mm heap w ev hm hR hrd
  have ho : heap o = .live (.row e 1 n cs) := hrd (o, _) (by simp)
  obtain ⟨hx, hy⟩ := repL2 (u := ev s) (v := ev x) hR
  obtain ⟨a, c, vs, e1, e2, e3, e4, e5⟩ := hs w0 A S mm heap w _ hm (fun p hp => hrd p (by simp [hp])) hy
  simp only [Rep] at hx
  obtain ⟨hx, _⟩ := hx
  obtain ⟨v, k1, k2, k3⟩ := hm.live o _ ho
  rw [hx] at k1
  have k1 := Option.some.inj k1
  have hk2 := k2
  obtain ⟨us, j1, j2, j3⟩ := k2
  rw [Nat.mul_one] at e3 j2
  rcases j3 with ⟨rfl, h0⟩ | ⟨b', cap, cur, fz, rfl, g1, g2, g3, g4, g5, g6, g7⟩
  · omega
  rw [Nat.mul_one] at g6 g7
  obtain ⟨ad, rfl⟩ : ∃ ad, a = some ad := by
    cases a with
    | none => exact absurd (e4 rfl) (by omega)
    | some ad => exact ⟨ad, rfl⟩
  have hl := run_loadCells_list (P := P) w ad vs (e5 ad rfl)
  have hst := run_storeCells_fz P b' 0 e fz vs 0 cur w g2 g3.cells (by omega) e2.one
  have hmin : Nat.min vs.length n = vs.length := Nat.min_eq_left (by omega)
  have hex : (execOp ev ⟨d, .call { callee := .builtin .copy, args := #[s, x], argTypes := #[t, t2] }, ty, pos, af, g⟩).run P w = .ok (.value (.int .i64 m)) (w.setRow b' (setR cur.toList 0 vs).toArray) := by
    cases hq : P.info? e with
    | none => simp [hq] at hi
    | some i =>
      have hi' : i.size = 1 := by simpa [hq] using hi
      simp only [Nat.zero_add, Nat.add_zero] at hst
      simp [execOp, resolve, invoke, builtin, k1, e1, Builtin.copy_, run_underlying hu, Builtin.lenOf, Builtin.firstCells, sizeOf, typeInfo, hq, hi', hmin, ← e3, hl, hst, setR, goInt]
  unfold Out
  rw [hex]
  have hbs : ∀ b, blk (.slice (some ⟨b', 0, none⟩) n cap) = some b → ¬ S b := k3
  have hgr : Grow S mm w S mm (w.setRow b' (setR cur.toList 0 vs).toArray) := ⟨fun _ h => h, fun c hS => setRow_other w b' c _ (fun e => hbs b' rfl (e ▸ hS)), fun _ _ h => h⟩
  have htake : (setR cur.toList 0 vs).take n = setR us 0 vs := by
    rw [← g7]
    simp only [setR, List.take_zero, List.nil_append, Nat.zero_add]
    rw [List.take_append, List.take_of_length_le (by omega), List.drop_take]
  have hfit : 0 + vs.length ≤ cur.toList.length := by simp only [Array.length_toList]; omega
  have hfit2 : 0 + vs.length ≤ us.length := by omega
  obtain ⟨f1, f2⟩ := mem_store hm (ob' := .row e 1 n es) (v := .slice (some ⟨b', 0, none⟩) n cap) (b := b') (setR cur.toList 0 vs).toArray (cur := cur) (t := e) (fz := fz) ho (by rw [hx, k1]) rfl
    ⟨setR us 0 vs, h ▸ PRepL.mono hgr.s hgr.w _ _ (j1.setR 0 e2), by rw [setR_length hfit2, Nat.mul_one]; exact j2, .inr ⟨b', cap, _, fz, rfl, g1, setRow_heap w b' _ _ e fz g2, by
      have : (setR cur.toList 0 vs).toArray.size = cur.size := by simp only [List.size_toArray]; rw [setR_length hfit]; simp
      rw [this]; exact g3, g4, g5, by simp only [List.size_toArray]; rw [setR_length hfit, Nat.mul_one]; simpa using g6, by rw [Nat.mul_one]; simpa using htake⟩⟩
  exact ⟨S, mm, rep_mk rfl, f1, f2⟩
/-- a byte slice turned to its own type: the row is marked behind its last cell -/
theorem a_convRow {x : Operand} {t e : TypeId} {o n : Nat} {cs : List PV} (hu : P.underlying t = some (.slice e)) (he : P.underlying e = some (.int .u8)) (hn : 0 < n) :
    AOp P ⟨d, .convert t t x, ty, pos, af, g⟩ [.row o] [(o, .live (.row e 1 n cs))] [(o, .live (.row e 1 n cs))] (.row o) := by
  intro w0 A S mm heap w ev hm hR hrd
  have ho : heap o = .live (.row e 1 n cs) := rd1 hrd
  have hx := repL1 (u := ev x) hR
  simp only [Rep] at hx
  obtain ⟨hx, hx2⟩ := hx
  obtain ⟨v, k1, k2, k3⟩ := hm.live o _ ho
  rw [hx] at k1
  have k1 := Option.some.inj k1
  obtain ⟨us, j1, j2, j3⟩ := k2
  rcases j3 with ⟨rfl, h0⟩ | ⟨b, cap, cur, fz, rfl, g1, g2, g3, g4, g5, g6, g7⟩
  · omega
  obtain ⟨fz', hw, hf⟩ : ∃ fz', w.freeze ⟨b, cur.size, none⟩ 1 = { w with heap := w.heap.modify b fun _ => .cells cur e fz' } ∧ noFz fz' cur.size := by
    refine ⟨if fz.1 == fz.2 then (cur.size, cur.size + 1) else (min fz.1 cur.size, max fz.2 (cur.size + 1)), ?_, ?_⟩
    · unfold World.freeze
      rw [if_neg (by decide)]
      congr 1
      apply Array.ext (by simp)
      intro i h1 h2
      simp only [Array.getElem_modify]
      split
      · rename_i e1
        subst e1
        have : w.heap[b]'(by simpa using h1) = .cells cur e fz := by
          have hlt : b < w.heap.size := by simpa using h1
          rw [Array.getElem?_eq_getElem hlt] at g2
          exact Option.some.inj g2
        rw [this]
      · rfl
    · unfold noFz at g3 ⊢
      split
      · exact .inr (Nat.le_refl _)
      · rename_i h1
        rcases g3 with g3 | g3
        · simp [g3] at h1
        · exact .inr (by simp only; omega)
  have hsh : w.shape? b = some (e, cur.size) := by simp [World.shape?, g2]
  have hex : (execOp ev ⟨d, .convert t t x, ty, pos, af, g⟩).run P w = .ok (.value (.slice (some ⟨b, 0, none⟩) n cap)) (w.freeze ⟨b, cur.size, none⟩ 1) := by
    simp [execOp, k1, convert, run_underlying hu, run_underlying he, markStringish, hsh]
  unfold Out
  rw [hex, hw]
  have hlt : b < w.heap.size := by
    rcases Nat.lt_or_ge b w.heap.size with h' | h'
    · exact h'
    · rw [Array.getElem?_eq_none h'] at g2; cases g2
  have q5 : ∀ k, k ≠ b → (w.heap.modify b fun _ => Obj.cells cur e fz')[k]? = w.heap[k]? := fun k hk => by
    rw [Array.getElem?_modify, if_neg (Ne.symm hk)]
  have hbS := k3 b rfl
  have hgr : Grow S mm w S mm { w with heap := w.heap.modify b fun _ => .cells cur e fz' } := ⟨fun _ h => h, fun c hS => q5 c (fun e => hbS (e ▸ hS)), fun _ _ h => h⟩
  obtain ⟨f1, f2⟩ := mem_turn hm (w' := { w with heap := w.heap.modify b fun _ => .cells cur e fz' }) (ob' := .row e 1 n cs) (v := .slice (some ⟨b, 0, none⟩) n cap) ho (by rw [hx, k1]) rfl rfl rfl rfl (by simp) q5
    ⟨us, PRepL.mono hgr.s hgr.w _ _ j1, j2, .inr ⟨b, cap, cur, fz', rfl, g1, by rw [Array.getElem?_modify, if_pos rfl, g2]; rfl, hf, g4, g5, g6, g7⟩⟩
  exact ⟨S, mm, by simp only [Rep]; exact ⟨by rw [hx, k1], _, _, _, rfl⟩, f1, f2⟩
end
end Go.Proofs.Ytgbgpidimipfjaa
