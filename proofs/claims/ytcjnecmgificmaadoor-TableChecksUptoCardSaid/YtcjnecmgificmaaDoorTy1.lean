/- States, typed, as data. -/
import Derived.Test.YtcjnecmgificmaaDoorTc1
import Derived.Test.YtcjnecmgificmaaDoorLe
--%T
namespace Go.Proofs.YtcjnecmgificmaaDoor
open Go.RowKit Go.Sort
set_option linter.unusedVariables false
set_option linter.unusedSimpArgs false
set_option maxRecDepth 100000

def PQ.OK (p : PQ) : Prop := p.xs.length ≤ 1048576
theorem PQ.of_ty {n : Nat} {ps : List PV} (h : Ty Tryd.prog (n + 5) 99 ps) (hb : PV.bdL 1048576 ps) : ∃ p : PQ, p.OK ∧ ps = p.pv := by
  obtain ⟨_, rfl, x0, _, rfl, t0, x1, _, rfl, t1, x2, _, rfl, t2, rfl⟩ := ty_struct (ts := [25, 25, 95]) (by kernel_rfl) h
  obtain ⟨a0, rfl, w0⟩ := ty_int Tryd.underlying25 t0
  obtain ⟨a1, rfl, w1⟩ := ty_int Tryd.underlying25 t1
  obtain ⟨xs, rfl, _, hB⟩ := ty_bytes Tryd.underlying95 Tryd.underlying5 (by kernel_rfl) t2
  simp only [List.flatten_cons, List.flatten_nil, List.append_nil, List.singleton_append, List.cons_append, List.nil_append, PV.bdL, PV.bd, and_true] at hb
  exact ⟨⟨a0, a1, xs⟩, hb.2.2.1, rfl⟩
theorem ST.of_ty {n : Nat} {ps : List PV} (h : Ty Tryd.prog (n + 7) 51 ps) (hb : PV.bdL 1048576 ps) : ∃ s : ST, s.OK ∧ ps = s.pv := by
  obtain ⟨_, rfl, x0, _, rfl, t0, x1, _, rfl, t1, x2, _, rfl, t2, x3, _, rfl, t3, x4, _, rfl, t4, rfl⟩ := ty_struct (ts := [9, 9, 46, 48, 49]) (by kernel_rfl) h
  obtain ⟨a0, rfl, _⟩ := ty_string Tryd.underlying9 t0
  obtain ⟨a1, rfl, _⟩ := ty_string Tryd.underlying9 t1
  obtain ⟨_, rfl, y0, _, rfl, u0, y1, _, rfl, u1, y2, _, rfl, u2, rfl⟩ := ty_struct (ts := [44, 44, 44]) (by kernel_rfl) t2
  obtain ⟨a, oa, rfl⟩ := KY.of_ty u0
  obtain ⟨b, ob, rfl⟩ := KY.of_ty u1
  obtain ⟨c, oc, rfl⟩ := KY.of_ty u2
  obtain ⟨x, _, _, _, rfl⟩ := HS.of_ty t3
  obtain ⟨L, rfl, h2, h3⟩ := ty_slice (sz := 3) Tryd.underlying49 (by kernel_rfl) t4
  have hbq := bdL_unflat hb
  have hb1 := hbq [.v (.string a1)] (by simp)
  have hb4 := hbq [.sl L.length 3 L.flatten] (by simp)
  clear hb hbq
  simp only [PV.bdL, PV.bd, and_true] at hb1 hb4
  obtain ⟨l, k1, k2, k3⟩ := recs_of (f := PQ.pv) (Q := PQ.OK) (L := L) fun x hx => by
    obtain ⟨s, h4, h5⟩ := PQ.of_ty (n := n) (h3 x hx).1 (bdL_unflat hb4.2 x hx)
    exact ⟨s, h4, h5⟩
  refine ⟨⟨a0, a1, a, b, c, x, l⟩, ⟨?_, oa, ob, oc, ?_, k3⟩, ?_⟩
  · show a1.size < _
    omega
  · show l.length ≤ _
    rw [k1]; exact hb4.1
  · simp only [ST.pv, slots3V, k1, k2, List.flatten_cons, List.flatten_nil, List.append_nil, List.append_assoc, List.singleton_append, List.cons_append, List.nil_append]
theorem ST.list_ty {n : Nat} {ps : List PV} (h : Ty Tryd.prog (n + 8) 52 ps) (hb : PV.bdL 1048576 ps) : ∃ l : List ST, (∀ s ∈ l, s.OK) ∧ l.length ≤ 1048576 ∧ ps = [.sl l.length 41 (l.flatMap ST.pv)] := by
  obtain ⟨L, rfl, h2, h3⟩ := ty_slice (sz := 41) Tryd.underlying52 (by kernel_rfl) h
  simp only [PV.bdL, PV.bd, and_true] at hb
  obtain ⟨l, k1, k2, k3⟩ := recs_of (f := ST.pv) (Q := ST.OK) (L := L) fun x hx => by
    obtain ⟨s, h4, h5⟩ := ST.of_ty (n := n) (h3 x hx).1 (bdL_unflat hb.2 x hx)
    exact ⟨s, h4, h5⟩
  exact ⟨l, k3, by rw [k1]; exact hb.1, by rw [k1, k2]⟩
end Go.Proofs.YtcjnecmgificmaaDoor
