/- A copied configuration, as data. -/
import Derived.Test.YtkdfdcodkeclmaaGreatDoorSAl2
import Derived.Test.YtkdfdcodkeclmaaGreatDoorSCf5
namespace Go.Proofs.YtkdfdcodkeclmaaGreatDoor
open Go.RowKit Go.Sort
set_option linter.unusedVariables false
set_option linter.unusedSimpArgs false
set_option maxRecDepth 100000
theorem fn_dataC {P : Program} {f : FuncId} {args : List AV} {a b : PV} {e size n : Nat} {cs : List PV} (h : Fn P f args (.agg [.p a, .p b, .row 0]) [(0, .row e size n cs)]) : Fn P f args (.agg [.p a, .p b, .p (.sl n size cs)]) [] := by
 intro w A us hA hG hr
 refine (h w A us hA hG hr).mono fun en w' ⟨v, he, S', m', h1, h2⟩ => ⟨v, he, fun b => S' b ∨ ∃ v0, m' 0 = some v0 ∧ blk v0 = some b, fun _ => none, ?_, ?_⟩
 ·simp only [Rep, RepL] at h1 ⊢
  obtain ⟨us, rfl, ⟨u0, _, rfl, k0, u1, _, rfl, k1, u2, _, rfl, k2, rfl⟩, k3⟩ := h1
  have hs : ∀ b, S' b → (fun b => S' b ∨ ∃ v0, m' 0 = some v0 ∧ blk v0 = some b) b := fun b hb => .inl hb
  exact ⟨_, rfl, ⟨u0, _, rfl, PRep.mono hs (fun _ _ => rfl) _ _ k0, u1, _, rfl, PRep.mono hs (fun _ _ => rfl) _ _ k1, u2, _, rfl, zfr h2 hs rfl (fun v b hv hb => .inr ⟨v, hv, hb⟩) k2.1, rfl⟩, k3⟩
 ·refine ⟨h2.bel, ?_, ?_, fun o _ => rfl, fun o ob ho => (by cases ho), fun o o' ob ob' v v' b ho => (by cases ho), h2.gl⟩
  ·rintro b (hb | ⟨v0, h3, h4⟩)
   ·exact h2.sA b hb
   ·obtain ⟨v', k1, k2, _⟩ := h2.live 0 _ rfl
    rw [h3] at k1; cases k1
    exact .inr (k2.lt h4).1
  ·rintro b (hb | ⟨v0, h3, h4⟩)
   ·exact h2.sW b hb
   ·obtain ⟨v', k1, k2, _⟩ := h2.live 0 _ rfl
    rw [h3] at k1; cases k1
    exact (k2.lt h4).2
theorem cfCopyD_s (c : CF) (ok : c.OK) : Fn Tryz.prog 21 [.agg c.cells] (.agg c.cells) [] := fn_dataC (zdk c ok)
theorem refCopyD_s (c : CF) (ok : c.OK) : Fn Tryz.prog 26 [.agg c.cells] (.agg c.cells) [] := fn_dataC (zbp c ok)
end Go.Proofs.YtkdfdcodkeclmaaGreatDoor
