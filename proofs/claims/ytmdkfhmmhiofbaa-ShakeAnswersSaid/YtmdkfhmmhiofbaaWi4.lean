/- The law WireEncodes, over data. -/
import Derived.Test.YtmdkfhmmhiofbaaWi3
import Derived.Test.YtmdkfhmmhiofbaaSm
--%T
namespace Go.Proofs.Ytmdkfhmmhiofbaa
open Go.RowKit Go.Sort
set_option linter.unusedVariables false
set_option linter.unusedSimpArgs false
set_option maxRecDepth 100000

theorem wE_good {m : MS} (h : wE m = 0) : (m.t = 1 ∨ m.t = 2 ∨ m.t = 4) ∧ m.n ≤ 300 ∧ 0 ≤ m.s ∧ m.s ≤ 4294967295 ∧ 0 ≤ m.r ∧ m.r ≤ 4294967295 ∧ 0 ≤ m.c ∧ m.c ≤ 1099511627776 := by
  unfold wE at h
  by_cases h1 : (ofS m.t).ok = false
  · rw [if_pos h1] at h; omega
  rw [if_neg h1] at h
  by_cases h2 : formB (ofS m.t) m = true
  · rw [if_pos h2] at h; omega
  rw [if_neg h2] at h
  by_cases h3 : rngB m = true
  · rw [if_pos h3] at h; omega
  rw [if_neg h3] at h
  by_cases h4 : sizB (ofS m.t) m = true
  · rw [if_pos h4] at h; omega
  have ht : m.t = 1 ∨ m.t = 2 ∨ m.t = 4 := by
    by_cases a1 : m.t = 1
    · exact .inl a1
    by_cases a2 : m.t = 2
    · exact .inr (.inl a2)
    by_cases a3 : m.t = 4
    · exact .inr (.inr a3)
    · exfalso; apply h1; unfold ofS; rw [if_neg a1, if_neg a2, if_neg a3]
  have hhi : (ofS m.t).hi ≤ 236 := by
    rcases ht with h | h | h <;> rw [h] <;> decide
  unfold rngB at h3
  unfold sizB at h4
  simp at h3 h4
  exact ⟨ht, by omega, by omega, by omega, by omega, by omega, by omega, by omega⟩

theorem MS.of_ty {n : Nat} {ps : List PV} (h : Ty Try.prog (n + 3) 24 ps) : ∃ m : MS, m.xs.length = m.n ∧ isB m.xs ∧ m.n ≤ 140737488351232 ∧ ps = m.pv := by
  obtain ⟨_, rfl, x0, _, rfl, t0, x1, _, rfl, t1, x2, _, rfl, t2, x3, _, rfl, t3, x4, _, rfl, t4, rfl⟩ := ty_struct (ts := [3, 3, 3, 3, 22]) (by kernel_rfl) h
  obtain ⟨a0, rfl, w0⟩ := ty_int Try.underlying3 t0
  obtain ⟨a1, rfl, w1⟩ := ty_int Try.underlying3 t1
  obtain ⟨a2, rfl, w2⟩ := ty_int Try.underlying3 t2
  obtain ⟨a3, rfl, w3⟩ := ty_int Try.underlying3 t3
  obtain ⟨xs, rfl, hl, hB⟩ := ty_bytesS Try.underlying22 Try.underlying5 (by kernel_rfl) (by kernel_rfl) t4
  exact ⟨⟨a0, a1, a2, a3, xs.length, xs⟩, rfl, hB, hl, rfl⟩

end Go.Proofs.Ytmdkfhmmhiofbaa
