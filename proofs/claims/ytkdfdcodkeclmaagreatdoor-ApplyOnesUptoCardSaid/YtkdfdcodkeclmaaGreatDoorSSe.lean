/- Settings, typed, as data. -/
import Derived.Test.YtkdfdcodkeclmaaGreatDoorSBt1
import Derived.Test.YtkdfdcodkeclmaaGreatDoorSUtZ
namespace Go.Proofs.YtkdfdcodkeclmaaGreatDoor
open Go.RowKit Go.Sort
set_option linter.unusedVariables false
set_option linter.unusedSimpArgs false
set_option maxRecDepth 100000
theorem SE.of_ty {n : Nat} {ps : List PV} (h : Ty Tryz.prog (n + 3) 29 ps) (hb : PV.bdL 1048576 ps) : ∃ s : SE, s.OK ∧ ps = s.pv := by
 obtain ⟨_, rfl, x0, _, rfl, t0, x1, _, rfl, t1, x2, _, rfl, t2, x3, _, rfl, t3, rfl⟩ := zdq (ts := [3, 9, 3, 27]) (by kernel_rfl) h
 obtain ⟨k, rfl, hk⟩ := zeW Tryz.underlying3 t0
 obtain ⟨t, rfl, _⟩ := zc2 Tryz.underlying9 t1
 obtain ⟨m, rfl, hm⟩ := zeW Tryz.underlying3 t2
 obtain ⟨_, rfl, y0, _, rfl, u0, y1, _, rfl, u1, rfl⟩ := zdq (ts := [25, 3]) (by kernel_rfl) t3
 obtain ⟨a, rfl, ha⟩ := zeW Tryz.underlying25 u0
 obtain ⟨b, rfl, hb'⟩ := zeW Tryz.underlying3 u1
 obtain ⟨m0, m1⟩ := wf_i64 hm
 obtain ⟨a0, a1⟩ := wf_u32 ha
 refine ⟨⟨k, t, m, a, b⟩, ⟨?_, m0, m1, a0, a1⟩, rfl⟩
 simp [PV.bdL, PV.bd] at hb
 show t.size < _
 omega
theorem SE.list_ty {n : Nat} {ps : List PV} (h : Ty Tryz.prog (n + 4) 35 ps) (hb : PV.bdL 1048576 ps) : ∃ l : List SE, (∀ s ∈ l, s.OK) ∧ l.length ≤ 1048576 ∧ ps = [.sl l.length 5 (l.flatMap SE.pv)] := by
 obtain ⟨L, rfl, h2, h3⟩ := ty_slice (sz := 5) Tryz.underlying35 (by kernel_rfl) h
 simp only [PV.bdL, PV.bd, and_true] at hb
 obtain ⟨l, k1, k2, k3⟩ := zgg (f := SE.pv) (Q := SE.OK) (L := L) fun x hx => by
  obtain ⟨s, h4, h5⟩ := SE.of_ty (n := n) (h3 x hx).1 (zeR hb.2 x hx)
  exact ⟨s, h4, h5⟩
 exact ⟨l, k3, by rw [k1]; exact hb.1, by rw [k1, k2]⟩
end Go.Proofs.YtkdfdcodkeclmaaGreatDoor
