/- append in a region that draws its order; rows of the call's own behind calls. -/
import Derived.Test.YtcbjngndlofpfaaByu
namespace Go.Proofs.Ytcbjngndlofpfaa
open Go.RowKit Go.Sort
set_option linter.unusedVariables false

theorem Own.below {w w1 : World} {B : Nat} {p : Option Addr} {n c : Nat} {xs : List Int} (h : Own w B p n c xs) (hb : Below w.heap.size w w1) : Own w1 B p n c xs := by
  refine ⟨h.len, h.le, ⟨h.row.1, ?_⟩, Nat.le_trans h.base hb.size⟩
  rcases h.row.2 with e | ⟨g, cap, cur, e, hg, hh, r⟩
  · exact .inl e
  · refine .inr ⟨g, cap, cur, e, hg, ?_, r⟩
    have hlt : g < w.heap.size := by
      rcases Nat.lt_or_ge g w.heap.size with hlt | hge
      · exact hlt
      · rw [Array.getElem?_eq_none hge] at hh; cases hh
    exact (hb.block g hlt).trans hh

theorem wp_app1 {w : World} {o : Oper} {a : Act} {K : Act → World → Prop} {Q : Exit → Act → World → Prop} (s x : Operand)
    (ho : o.op = .call { callee := .builtin .append, args := #[s, x], argTypes := #[25, 25] })
    {B : Nat} {p : Option Addr} {n c : Nat} {xs : List Int} {q : Option Addr} {m d : Nat} {ys : List Int}
    (hs : a.eval s = .slice p n c) (hown : Own w B p n c xs) (hx : a.eval x = .slice q m d) (hr : Byt w q m ys) (h47 : n + m ≤ 1000000000)
    (h : ∀ p' c' w', Own w' B p' (n + m) c' (xs ++ ys) → Below B w w' → K (a.put o.dst (.slice p' (n + m) c')) w') : o.wp Try.prog a w K Q := by
  obtain ⟨i0, hi, hz0, hz1, hz2⟩ := info_parts info_u8
  refine wp_append_any w s x 25 ho B 5 i0 (.int .u8 0) 1 1 Try.underlying25 hi hz0 hz1 hz2 rfl (by decide) (.slice p n c) n (bv xs) hs hown.row w.heap.size q m d (bv ys) hx hr (bv_one ys) (by simp only [maxLen]; omega) (by omega) hown.base ?_
  intro v' w' hown' hg hat
  have hbl : Below B w w' := (Below.refl _ _).grown hg hown.base hown.blk
  have hb2 : B ≤ w'.heap.size := Nat.le_trans hown.base hg.size
  have hlen : (xs ++ ys).length = n + m := by rw [List.length_append, hown.len, hr.len]
  have hbv : bv xs ++ bv ys = bv (xs ++ ys) := by simp [bv]
  rw [hbv] at hown'
  rcases hown'.2 with ⟨e, e2⟩ | ⟨g, cap, cur, e, hg', hh, hle, r⟩
  · have e3 : v' = .slice none (n + m) 0 := by rw [e, e2]
    rw [e3]
    exact h none 0 w' ⟨hlen, by omega, e3 ▸ hown', hb2⟩ hbl
  · rw [e]
    exact h _ cap w' ⟨hlen, hle, e ▸ hown', hb2⟩ hbl

theorem step_app {w : World} {ops : Array Oper} {o : Oper} {a : Act} {K : Act → World → Prop} {Q : Exit → Act → World → Prop} {E : Prop} (hgd : o.guard = none) (s x : Operand)
    (ho : o.op = .call { callee := .builtin .append, args := #[s, x], argTypes := #[25, 25] })
    {B : Nat} {p : Option Addr} {n c : Nat} {xs : List Int} {q : Option Addr} {m d : Nat} {ys : List Int}
    (hs : a.eval s = .slice p n c) (hown : Own w B p n c xs) (hx : a.eval x = .slice q m d) (hr : Byt w q m ys) (h47 : n + m ≤ 1000000000)
    (h : ∀ p' c' w', Own w' B p' (n + m) c' (xs ++ ys) → Below B w w' → K (a.put o.dst (.slice p' (n + m) c')) w') :
    if Region.wanted o (yielded ops a.tmps) = true then Oper.wp Try.prog o a w K Q else E := by
  have hw : Region.wanted o (yielded ops a.tmps) = true := by simp [Region.wanted, hgd]
  rw [if_pos hw]
  exact wp_app1 s x ho hs hown hx hr h47 h

/-- what a function that answers bytes alone leaves -/
def RetS (w : World) (xs : List Int) (e : Ending) (w' : World) : Prop :=
  ∃ p n c, e = .returned (.slice p n c) ∧ Byt w' p n xs ∧ n ≤ c ∧ Below w.heap.size w w'
end Go.Proofs.Ytcbjngndlofpfaa
