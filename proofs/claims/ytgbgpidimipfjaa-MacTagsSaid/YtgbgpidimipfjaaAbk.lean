/- copy, over data. -/
import Derived.Test.YtgbgpidimipfjaaAbc
import Derived.Laws.CopyRow
namespace Go.Proofs.Ytgbgpidimipfjaa
open Go.RowKit Go.Sort
set_option linter.unusedVariables false
section
variable {P : Program} {d : Option Tmp} {ty : TypeId} {pos : String} {af : Array Edge} {g : Option (Nat × Bool)}
/-- copy to the head of a row, of no more than it has -/
theorem a_copy {s x : Operand} {t t2 e : TypeId} {o n m : Nat} {cs ys es : List PV} {X : AV} {rds : List (Nat × Slot)} (hu : P.underlying t = some (.slice e)) (hi : (P.info? e).map (·.size) = some 1) (hs : Src rds X m 1 ys) (h1 : 1 ≤ m) (hmn : m ≤ n) (hcs : cs.length = n) (h : setR cs 0 ys = es) :
    AOp P ⟨d, .call { callee := .builtin .copy, args := #[s, x], argTypes := #[t, t2] }, ty, pos, af, g⟩ [.row o, X] ((o, .live (.row e 1 n cs)) :: rds) [(o, .live (.row e 1 n es))] (.p (.v (.int .i64 m))) := by
  intro w0 A S mm heap w ev hm hR hrd
  have ho : heap o = .live (.row e 1 n cs) := hrd (o, _) (by simp)
  obtain ⟨hx, hy⟩ := repL2 (u := ev s) (v := ev x) hR
  obtain ⟨a, c, vs, e1, e2, e3, e4, e5⟩ := hs w0 A S mm heap w _ hm (fun p hp => hrd p (by simp [hp])) hy
  simp only [Rep] at hx
  obtain ⟨hx, _⟩ := hx
  obtain ⟨v, k1, k2, k3⟩ := hm.live o _ ho
  rw [hx] at k1
  have k1 := Option.some.inj k1
  have hk2 := k2
  obtain ⟨us, j1, j2, j3⟩ := k2
  rw [Nat.mul_one] at e3 j2
  rcases j3 with ⟨rfl, h0⟩ | ⟨b', cap, cur, fz, rfl, g1, g2, g3, g4, g5, g6, g7⟩
  · omega
  rw [Nat.mul_one] at g6 g7
  obtain ⟨ad, rfl⟩ : ∃ ad, a = some ad := by
    cases a with
    | none => exact absurd (e4 rfl) (by omega)
    | some ad => exact ⟨ad, rfl⟩
  have hl := run_loadCells_list (P := P) w ad vs (e5 ad rfl)
  have hst := run_storeCells_fz P b' 0 e fz vs 0 cur w g2 g3 (by omega) e2.one
  have hmin : Nat.min vs.length n = vs.length := Nat.min_eq_left (by omega)
  have hex : (execOp ev ⟨d, .call { callee := .builtin .copy, args := #[s, x], argTypes := #[t, t2] }, ty, pos, af, g⟩).run P w = .ok (.value (.int .i64 m)) (w.setRow b' (setR cur.toList 0 vs).toArray) := by
    cases hq : P.info? e with
    | none => simp [hq] at hi
    | some i =>
      have hi' : i.size = 1 := by simpa [hq] using hi
      simp only [Nat.zero_add, Nat.add_zero] at hst
      simp [execOp, resolve, invoke, builtin, k1, e1, Builtin.copy_, run_underlying hu, Builtin.lenOf, Builtin.firstCells, sizeOf, typeInfo, hq, hi', hmin, ← e3, hl, hst, setR, goInt]
  unfold Out
  rw [hex]
  have hbs : ∀ b, blk (.slice (some ⟨b', 0, none⟩) n cap) = some b → ¬ S b := k3
  have hgr : Grow S mm w S mm (w.setRow b' (setR cur.toList 0 vs).toArray) := ⟨fun _ h => h, fun c hS => setRow_other w b' c _ (fun e => hbs b' rfl (e ▸ hS)), fun _ _ h => h⟩
  have htake : (setR cur.toList 0 vs).take n = setR us 0 vs := by
    rw [← g7]
    simp only [setR, List.take_zero, List.nil_append, Nat.zero_add]
    rw [List.take_append, List.take_of_length_le (by omega), List.drop_take]
  have hfit : 0 + vs.length ≤ cur.toList.length := by simp only [Array.length_toList]; omega
  have hfit2 : 0 + vs.length ≤ us.length := by omega
  obtain ⟨f1, f2⟩ := mem_store hm (ob' := .row e 1 n es) (v := .slice (some ⟨b', 0, none⟩) n cap) (b := b') (setR cur.toList 0 vs).toArray (cur := cur) (t := e) (fz := fz) ho (by rw [hx, k1]) rfl
    ⟨setR us 0 vs, h ▸ PRepL.mono hgr.s hgr.w _ _ (j1.setR 0 e2), by rw [setR_length hfit2, Nat.mul_one]; exact j2, .inr ⟨b', cap, _, fz, rfl, g1, setRow_heap w b' _ _ e fz g2, by
      have : (setR cur.toList 0 vs).toArray.size = cur.size := by simp only [List.size_toArray]; rw [setR_length hfit]; simp
      rw [this]; exact g3, g4, g5, by simp only [List.size_toArray]; rw [setR_length hfit, Nat.mul_one]; simpa using g6, by rw [Nat.mul_one]; simpa using htake⟩⟩
  exact ⟨S, mm, rep_mk rfl, f1, f2⟩
end
end Go.Proofs.Ytgbgpidimipfjaa
