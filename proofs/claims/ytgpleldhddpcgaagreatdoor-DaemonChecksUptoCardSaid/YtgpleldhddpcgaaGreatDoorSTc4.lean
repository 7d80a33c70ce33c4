/- States, typed, as data. -/
import Derived.Test.YtgpleldhddpcgaaGreatDoorSTc1
import Derived.Test.YtgpleldhddpcgaaGreatDoorSUtZ
import Derived.Test.YtgpleldhddpcgaaGreatDoorSMa3
import Derived.Test.YtgpleldhddpcgaaGreatDoorSTab
namespace Go.Proofs.YtgpleldhddpcgaaGreatDoor
open Go.RowKit Go.Sort
set_option linter.unusedVariables false
set_option linter.unusedSimpArgs false
set_option maxRecDepth 100000
def PQ.OK (p : PQ) : Prop := p.xs.length ≤ 1048576 ∧ isB p.xs
/-- packets that wait hold bytes -/
def ST.B (s : ST) : Prop := s.q.length ≤ 1048576 ∧ ∀ p ∈ s.q, isB p.xs
theorem PQ.of_ty {n : Nat} {ps : List PV} (h : Ty Tryz.prog (n + 5) 91 ps) (hb : PV.bdL 1048576 ps) : ∃ p : PQ, p.OK ∧ ps = p.pv := by
 obtain ⟨_, rfl, x0, _, rfl, t0, x1, _, rfl, t1, x2, _, rfl, t2, rfl⟩ := zbv (ts := [50, 50, 89]) (by kernel_rfl) h
 obtain ⟨a0, rfl, w0⟩ := zbM Tryz.underlying50 t0
 obtain ⟨a1, rfl, w1⟩ := zbM Tryz.underlying50 t1
 obtain ⟨xs, rfl, _, hB⟩ := ty_bytes Tryz.underlying89 Tryz.underlying5 (by kernel_rfl) t2
 simp only [List.flatten_cons, List.flatten_nil, List.append_nil, List.singleton_append, List.cons_append, List.nil_append, PV.bdL, PV.bd, and_true] at hb
 exact ⟨⟨a0, a1, xs⟩, ⟨hb.2.2.1, hB⟩, rfl⟩
theorem ST.of_tyB {n : Nat} {ps : List PV} (h : Ty Tryz.prog (n + 7) 81 ps) (hb : PV.bdL 1048576 ps) : ∃ s : ST, (s.OK ∧ s.B) ∧ ps = s.pv := by
 obtain ⟨_, rfl, x0, _, rfl, t0, x1, _, rfl, t1, x2, _, rfl, t2, x3, _, rfl, t3, x4, _, rfl, t4, rfl⟩ := zbv (ts := [9, 9, 76, 78, 79]) (by kernel_rfl) h
 obtain ⟨a0, rfl, _⟩ := zbS Tryz.underlying9 t0
 obtain ⟨a1, rfl, _⟩ := zbS Tryz.underlying9 t1
 obtain ⟨_, rfl, y0, _, rfl, u0, y1, _, rfl, u1, y2, _, rfl, u2, rfl⟩ := zbv (ts := [74, 74, 74]) (by kernel_rfl) t2
 obtain ⟨a, oa, rfl⟩ := KY.of_ty u0
 obtain ⟨b, ob, rfl⟩ := KY.of_ty u1
 obtain ⟨c, oc, rfl⟩ := KY.of_ty u2
 obtain ⟨x, _, _, _, rfl⟩ := HS.of_ty t3
 obtain ⟨L, rfl, h2, h3⟩ := zeS (sz := 3) Tryz.underlying79 (by kernel_rfl) t4
 have hbq := zbD hb
 have hb1 := hbq [.v (.string a1)] (by simp)
 have hb4 := hbq [.sl L.length 3 L.flatten] (by simp)
 clear hb hbq
 simp only [PV.bdL, PV.bd, and_true] at hb1 hb4
 obtain ⟨l, k1, k2, k3⟩ := zfg (f := PQ.pv) (Q := PQ.OK) (L := L) fun x hx => by
  obtain ⟨s, h4, h5⟩ := PQ.of_ty (n := n) (h3 x hx).1 (zbD hb4.2 x hx)
  exact ⟨s, h4, h5⟩
 have hll : l.length ≤ 1048576 := by rw [k1]; exact hb4.1
 refine ⟨⟨a0, a1, a, b, c, x, l⟩, ⟨⟨?_, oa, ob, oc, hll, fun p hp => (k3 p hp).1⟩, hll, fun p hp => (k3 p hp).2⟩, ?_⟩
 ·show a1.size < _
  omega
 ·simp only [ST.pv, zfY, k1, k2, List.flatten_cons, List.flatten_nil, List.append_nil, List.append_assoc, List.singleton_append, List.cons_append, List.nil_append]
theorem ST.of_ty {n : Nat} {ps : List PV} (h : Ty Tryz.prog (n + 7) 81 ps) (hb : PV.bdL 1048576 ps) : ∃ s : ST, s.OK ∧ ps = s.pv := by
 obtain ⟨s, h1, h2⟩ := ST.of_tyB h hb
 exact ⟨s, h1.1, h2⟩
theorem ST.list_tyB {n : Nat} {ps : List PV} (h : Ty Tryz.prog (n + 8) 40 ps) (hb : PV.bdL 1048576 ps) : ∃ l : List ST, (∀ s ∈ l, s.OK ∧ s.B) ∧ l.length ≤ 1048576 ∧ ps = [.sl l.length 41 (l.flatMap ST.pv)] := by
 obtain ⟨L, rfl, h2, h3⟩ := zeS (sz := 41) Tryz.underlying40 (by kernel_rfl) h
 simp only [PV.bdL, PV.bd, and_true] at hb
 obtain ⟨l, k1, k2, k3⟩ := zfg (f := ST.pv) (Q := fun s : ST => s.OK ∧ s.B) (L := L) fun x hx => by
  obtain ⟨s, h4, h5⟩ := ST.of_tyB (n := n) (h3 x hx).1 (zbD hb.2 x hx)
  exact ⟨s, h4, h5⟩
 exact ⟨l, k3, by rw [k1]; exact hb.1, by rw [k1, k2]⟩
theorem ST.list_ty {n : Nat} {ps : List PV} (h : Ty Tryz.prog (n + 8) 40 ps) (hb : PV.bdL 1048576 ps) : ∃ l : List ST, (∀ s ∈ l, s.OK) ∧ l.length ≤ 1048576 ∧ ps = [.sl l.length 41 (l.flatMap ST.pv)] := by
 obtain ⟨l, h1, h2, h3⟩ := ST.list_tyB h hb
 exact ⟨l, fun s hs => (h1 s hs).1, h2, h3⟩
end Go.Proofs.YtgpleldhddpcgaaGreatDoor
/- The laws' sameBytes, over data. -/
namespace Go.Proofs.YtgpleldhddpcgaaGreatDoor
open Go.RowKit Go.Sort
set_option linter.unusedVariables false
set_option linter.unusedSimpArgs false
set_option maxRecDepth 100000
theorem same_s (n m : Nat) (xs ys : List Int) : Fn Tryz.prog 130 [.p (.sl n 1 (bs xs)), .p (.sl m 1 (bs ys))] (.p (.v (.bool (decide (strOfNums xs = strOfNums ys))))) [] := by
 refine zap Tryz.func130 rfl (Nat.le_of_ble_eq_true rfl) fun w0 A => ?_
 refine zaa ?_
 refine zaw (by kernel_rfl) ?_
 (refine zac (zas (r := .p _)) rfl rfl ?_)
 refine zab ?_
 refine zaa ?_
 refine zaw (by kernel_rfl) ?_
 (refine zac (zaq (r := .p _)) rfl rfl ?_)
 (refine zal (a_b2s Tryz.underlying89 Tryz.underlying5 Tryz.underlying9 (zdJ) rfl rfl) rfl rfl trivial ?_)
 (refine zac (zaq (r := .p _)) rfl rfl ?_)
 (refine zal (a_b2s Tryz.underlying89 Tryz.underlying5 Tryz.underlying9 (zdJ) rfl rfl) rfl rfl trivial ?_)
 (refine zac zbQ rfl rfl ?_)
 (refine zac (zas (r := .p _)) rfl rfl ?_)
 refine zab ?_
 refine zaf ?_
 refine ⟨(by first | exact .inl rfl | exact .inr rfl), _, (fun o => o), (.tmp _ _ _ _ rfl .nil), ?_, rfl, ?_, rfl⟩
 ·exact rfl
 ·exact trivial
end Go.Proofs.YtgpleldhddpcgaaGreatDoor
/- The law's sameStates, over data: a state is the same as itself. -/
namespace Go.Proofs.YtgpleldhddpcgaaGreatDoor
open Go.RowKit Go.Sort
set_option linter.unusedVariables false
set_option linter.unusedSimpArgs false
set_option maxRecDepth 100000
def PQ.cells (p : PQ) : List AV := [.p (.v (.int .u32 p.a)), .p (.v (.int .u32 p.b)), .p (.sl p.xs.length 1 (bs p.xs))]
end Go.Proofs.YtgpleldhddpcgaaGreatDoor
