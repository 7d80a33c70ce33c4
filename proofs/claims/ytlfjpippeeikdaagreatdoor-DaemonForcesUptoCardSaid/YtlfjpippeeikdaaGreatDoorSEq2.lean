/- slices.Equal of rows of nets, of settings, of nodes: are two rows the same? Over data. -/
import Derived.Test.YtlfjpippeeikdaaGreatDoorSTw2
set_option linter.all false
namespace Go.Proofs.YtlfjpippeeikdaaGreatDoor
open Tryz
open Go.RowKit Go.Sort
set_option maxRecDepth 100000
noncomputable def eqB {α : Type} (x y : α) : Bool := @decide (x = y) (Classical.propDecidable _)
theorem zgb {α : Type} {x y : α} : eqB x y = true ↔ x = y := by unfold eqB; simp
theorem ziA {α : Type} {x y : α} (h : x = y) : eqB x y = true := zgb.2 h
theorem zgc {α : Type} {x y : α} (h : x ≠ y) : eqB x y = false := by
 cases hq : eqB x y with
 | false => rfl
 | true => exact absurd (zgb.1 hq) h
theorem ziz {α : Type} (x : α) : eqB x x = true := ziA rfl
theorem zg0 {α : Type} {l m : List α} {i : Nat} {x y : α} (h1 : l[i]? = some x) (h2 : m[i]? = some y) (h : x ≠ y) : l ≠ m := by
 rintro rfl
 rw [h1] at h2
 exact h (Option.some.inj h2)
theorem zg1 {α : Type} {l m : List α} (h : l.length = m.length) (k : ∀ j, j < l.length → l[j]? = m[j]?) : l = m := by
 apply qce
 intro j
 rcases qbH j l.length with hj | hj
 ·exact k j hj
 ·rw [qbO hj, qbO (by omega)]
theorem eqNets_d (l m : List NtP) (hl : l.length ≤ 4611686018427387904) (hm : m.length ≤ 4611686018427387904) : Fn prog 53 [.p (.sl l.length 2 (l.flatMap ntC)), .p (.sl m.length 2 (m.flatMap ntC))] (qf (eqB l m)) [] := by
 by_cases hlen : l.length = m.length
 rotate_left
 ·rw [zgc (fun e => hlen (by rw [e]))]
  generalize l.flatMap ntC = L
  generalize m.flatMap ntC = M
  exact jaI
 obtain ⟨E, hE⟩ : ∃ E, eqB l m = E := ⟨_, rfl⟩
 rw [hE]
 refine fnI fun w0 A => ?_
 refine G [11, 3, 11] ?_
 refine zae (fun u st => ∃ i : Nat, u + i = l.length ∧ (∀ j, j < i → l[j]? = m[j]?) ∧ st = St.of [(0, .p (.sl l.length 2 (l.flatMap ntC))), (1, .p (.sl m.length 2 (m.flatMap ntC))), (12, qd l.length), (13, qd i)] []) l.length ?_ ?_
 ·exact jav
 rintro u st ⟨i, hi, hf, rfl⟩
 refine G [5] ?_
 refine cX ?_ ?_ <;> intro h
 ·have hlt : i < l.length := by simp at h; omega
  clear h
  obtain ⟨x, hx⟩ : ∃ x, l[i]? = some x := ⟨l[i], List.getElem?_eq_getElem hlt⟩
  obtain ⟨y, hy⟩ : ∃ y, m[i]? = some y := ⟨m[i]'qk, List.getElem?_eq_getElem qk⟩
  have hch := zaj (f := ntC) (k := 2) (fun _ => rfl) hx
  have hle := zak (f := ntC) (k := 2) (fun _ => rfl) hlt
  have hch2 := zaj (f := ntC) (k := 2) (fun _ => rfl) hy
  have hle2 := zak (f := ntC) (k := 2) (fun _ => rfl) (show i < m.length by omega)
  have hbad := zg0 hx hy
  have hxy : x = y → l[i]? = m[i]? := fun e => by rw [hx, hy, e]
  generalize l.flatMap ntC = L at *
  generalize m.flatMap ntC = M at *
  obtain ⟨a1, b1⟩ := x
  obtain ⟨a2, b2⟩ := y
  refine G [8] ?_
  by_cases he : (⟨a1, b1⟩ : NtP) = ⟨a2, b2⟩
  ·refine G [10] ?_
   refine zaa (zao U82 (xs := [.int .u32 a1, .int .i64 b1]) (ys := [.int .u32 a2, .int .i64 b2]) rfl rfl qm qm qm (c := false) qZ) rfl rfl ?_
   refine jcS ?_
   exact jat
  ·rw [zgc (hbad he)] at hE
   subst hE
   refine G [10] ?_
   refine zaa (zao U82 (xs := [.int .u32 a1, .int .i64 b1]) (ys := [.int .u32 a2, .int .i64 b2]) rfl rfl qm qm qm (c := true) qX) rfl rfl ?_
   refine jcS ?_
   exact yE
 have hge : i = l.length := by simp at h; omega
 clear h
 subst hge
 rw [ziA (zg1 hlen hf)] at hE
 subst hE
 refine jcV ?_
 exact yE
theorem eqSets_d (l m : List SE) (hl : l.length ≤ 4611686018427387904) (hm : m.length ≤ 4611686018427387904) : Fn prog 90 [.p (.sl l.length 5 (l.flatMap SE.pv)), .p (.sl m.length 5 (m.flatMap SE.pv))] (qf (eqB l m)) [] := by
 by_cases hlen : l.length = m.length
 rotate_left
 ·rw [zgc (fun e => hlen (by rw [e]))]
  generalize l.flatMap SE.pv = L
  generalize m.flatMap SE.pv = M
  exact jaI
 obtain ⟨E, hE⟩ : ∃ E, eqB l m = E := ⟨_, rfl⟩
 rw [hE]
 refine fnI fun w0 A => ?_
 refine G [8] ?_
 (first | refine zaa (zd7 U27) rfl rfl ?_ | refine zaa (zgK U27) rfl rfl ?_)
 refine mP rfl rfl ?_
 (first | refine zaa (zd7 U27) rfl rfl ?_ | refine zaa (zgK U27) rfl rfl ?_)
 refine G [0, 3, 11] ?_
 refine zae (fun u st => ∃ i : Nat, u + i = l.length ∧ (∀ j, j < i → l[j]? = m[j]?) ∧ st = St.of [(0, .p (.sl l.length 5 (l.flatMap SE.pv))), (1, .p (.sl m.length 5 (m.flatMap SE.pv))), (12, qd l.length), (13, qd i)] []) l.length ?_ ?_
 ·exact jav
 rintro u st ⟨i, hi, hf, rfl⟩
 refine G [5] ?_
 refine cX ?_ ?_ <;> intro h
 ·have hlt : i < l.length := by simp at h; omega
  clear h
  obtain ⟨x, hx⟩ : ∃ x, l[i]? = some x := ⟨l[i], List.getElem?_eq_getElem hlt⟩
  obtain ⟨y, hy⟩ : ∃ y, m[i]? = some y := ⟨m[i]'qk, List.getElem?_eq_getElem qk⟩
  have hch := zaj (f := SE.pv) (k := 5) (fun _ => rfl) hx
  have hle := zak (f := SE.pv) (k := 5) (fun _ => rfl) hlt
  have hch2 := zaj (f := SE.pv) (k := 5) (fun _ => rfl) hy
  have hle2 := zak (f := SE.pv) (k := 5) (fun _ => rfl) (show i < m.length by omega)
  have hbad := zg0 hx hy
  have hxy : x = y → l[i]? = m[i]? := fun e => by rw [hx, hy, e]
  generalize l.flatMap SE.pv = L at *
  generalize m.flatMap SE.pv = M at *
  obtain ⟨k1, t1, n1, a1, b1⟩ := x
  obtain ⟨k2, t2, n2, a2, b2⟩ := y
  refine G [8] ?_
  by_cases he : (⟨k1, t1, n1, a1, b1⟩ : SE) = ⟨k2, t2, n2, a2, b2⟩
  ·refine G [10] ?_
   refine zaa (zao U107 (xs := [.int .i64 k1, .string t1, .int .i64 n1, .int .u32 a1, .int .i64 b1]) (ys := [.int .i64 k2, .string t2, .int .i64 n2, .int .u32 a2, .int .i64 b2]) rfl rfl qm qm qm (c := false) qZ) rfl rfl ?_
   refine jcS ?_
   exact jat
  ·rw [zgc (hbad he)] at hE
   subst hE
   refine G [10] ?_
   refine zaa (zao U107 (xs := [.int .i64 k1, .string t1, .int .i64 n1, .int .u32 a1, .int .i64 b1]) (ys := [.int .i64 k2, .string t2, .int .i64 n2, .int .u32 a2, .int .i64 b2]) rfl rfl qm qm qm (c := true) qX) rfl rfl ?_
   refine jcS ?_
   exact yE
 have hge : i = l.length := by simp at h; omega
 clear h
 subst hge
 rw [ziA (zg1 hlen hf)] at hE
 subst hE
 refine jcV ?_
 exact yE
theorem eqNodes_d (l m : List ND) (hl : l.length ≤ 4611686018427387904) (hm : m.length ≤ 4611686018427387904) : Fn prog 39 [.p (.sl l.length 4 (l.flatMap ND.pv)), .p (.sl m.length 4 (m.flatMap ND.pv))] (qf (eqB l m)) [] := by
 by_cases hlen : l.length = m.length
 rotate_left
 ·rw [zgc (fun e => hlen (by rw [e]))]
  generalize l.flatMap ND.pv = L
  generalize m.flatMap ND.pv = M
  exact jaI
 obtain ⟨E, hE⟩ : ∃ E, eqB l m = E := ⟨_, rfl⟩
 rw [hE]
 refine fnI fun w0 A => ?_
 refine G [8] ?_
 (first | refine zaa (zd7 U25) rfl rfl ?_ | refine zaa (zgK U25) rfl rfl ?_)
 refine mP rfl rfl ?_
 (first | refine zaa (zd7 U25) rfl rfl ?_ | refine zaa (zgK U25) rfl rfl ?_)
 refine G [0, 3, 11] ?_
 refine zae (fun u st => ∃ i : Nat, u + i = l.length ∧ (∀ j, j < i → l[j]? = m[j]?) ∧ st = St.of [(0, .p (.sl l.length 4 (l.flatMap ND.pv))), (1, .p (.sl m.length 4 (m.flatMap ND.pv))), (12, qd l.length), (13, qd i)] []) l.length ?_ ?_
 ·exact jav
 rintro u st ⟨i, hi, hf, rfl⟩
 refine G [5] ?_
 refine cX ?_ ?_ <;> intro h
 ·have hlt : i < l.length := by simp at h; omega
  clear h
  obtain ⟨x, hx⟩ : ∃ x, l[i]? = some x := ⟨l[i], List.getElem?_eq_getElem hlt⟩
  obtain ⟨y, hy⟩ : ∃ y, m[i]? = some y := ⟨m[i]'qk, List.getElem?_eq_getElem qk⟩
  have hch := zaj (f := ND.pv) (k := 4) (fun _ => rfl) hx
  have hle := zak (f := ND.pv) (k := 4) (fun _ => rfl) hlt
  have hch2 := zaj (f := ND.pv) (k := 4) (fun _ => rfl) hy
  have hle2 := zak (f := ND.pv) (k := 4) (fun _ => rfl) (show i < m.length by omega)
  have hbad := zg0 hx hy
  have hxy : x = y → l[i]? = m[i]? := fun e => by rw [hx, hy, e]
  generalize l.flatMap ND.pv = L at *
  generalize m.flatMap ND.pv = M at *
  obtain ⟨a1, n1, o1, s1⟩ := x
  obtain ⟨a2, n2, o2, s2⟩ := y
  refine G [8] ?_
  by_cases he : (⟨a1, n1, o1, s1⟩ : ND) = ⟨a2, n2, o2, s2⟩
  ·refine G [10] ?_
   refine zaa (zao U84 (xs := [.int .u32 a1, .int .i64 n1, .string o1, .int .i64 s1]) (ys := [.int .u32 a2, .int .i64 n2, .string o2, .int .i64 s2]) rfl rfl qm qm qm (c := false) qZ) rfl rfl ?_
   refine jcS ?_
   exact jat
  ·rw [zgc (hbad he)] at hE
   subst hE
   refine G [10] ?_
   refine zaa (zao U84 (xs := [.int .u32 a1, .int .i64 n1, .string o1, .int .i64 s1]) (ys := [.int .u32 a2, .int .i64 n2, .string o2, .int .i64 s2]) rfl rfl qm qm qm (c := true) qX) rfl rfl ?_
   refine jcS ?_
   exact yE
 have hge : i = l.length := by simp at h; omega
 clear h
 subst hge
 rw [ziA (zg1 hlen hf)] at hE
 subst hE
 refine jcV ?_
 exact yE
end Go.Proofs.YtlfjpippeeikdaaGreatDoor
namespace Go.Proofs.YtlfjpippeeikdaaGreatDoor
open Go.RowKit Go.Sort
set_option maxRecDepth 100000
structure CF where
 key : ByteArray
 port : Int
 ps : List PE
def cfC (key : ByteArray) (port : Int) (n : Nat) (L : List PV) : List AV := [qc key, qd port, .p (.sl n 5 L)]
def CF.cells (c : CF) : List AV := cfC c.key c.port c.ps.length (c.ps.flatMap PE.pv)
def CF.pv (c : CF) : List PV := [qg c.key, qh c.port, .sl c.ps.length 5 (c.ps.flatMap PE.pv)]
structure CF.OK (c : CF) : Prop where
 len : c.ps.length ≤ 1048576
 ps : ∀ p ∈ c.ps, p.OK ∧ p.nets.length ≤ 1048576
theorem PE.list_ty {n : Nat} {ps : List PV} (h : Ty Tryz.prog (n + 6) 22 ps) (hb : PV.bdL 1048576 ps) : ∃ l : List PE, (∀ p ∈ l, p.OK ∧ p.nets.length ≤ 1048576) ∧ l.length ≤ 1048576 ∧ ps = [.sl l.length 5 (l.flatMap PE.pv)] := by
 obtain ⟨L, rfl, h2, h3⟩ := zfb (sz := 5) U22 qm h
 simp only [PV.bdL, PV.bd, and_true] at hb
 obtain ⟨l, k1, k2, k3⟩ := zfV (f := PE.pv) (Q := fun p : PE => p.OK ∧ p.nets.length ≤ 1048576) (L := L) fun x hx => by
  have hbx := zbr hb.2 x hx
  obtain ⟨s, h4, h5⟩ := PE.of_ty (n := n) (h3 x hx).1 hbx
  rw [h5] at hbx
  simp only [PE.pv, PV.bdL, PV.bd] at hbx
  exact ⟨s, ⟨h4, hbx.2.2.2.2.1.1⟩, h5⟩
 exact jcD
theorem CF.of_ty {n : Nat} {ps : List PV} (h : Ty Tryz.prog (n + 7) 24 ps) (hb : PV.bdL 1048576 ps) : ∃ c : CF, c.OK ∧ ps = c.pv := by
 obtain ⟨_, rfl, x0, _, rfl, t0, x1, _, rfl, t1, x2, _, rfl, t2, rfl⟩ := zbi (ts := [9, 3, 22]) qm h
 obtain ⟨a0, rfl, _⟩ := zbF U9 t0
 obtain ⟨a1, rfl, _⟩ := zbz U3 t1
 obtain ⟨l, ok, hl, rfl⟩ := PE.list_ty t2 (zbr hb x2 qz)
 exact ⟨⟨a0, a1, l⟩, ⟨hl, ok⟩, rfl⟩
def dupN : List NtP → List NtP → Bool
 | _, [] => false
 | acc, n :: r => decide (n ∈ acc) || dupN (acc ++ [n]) r
def peG (l : List PE) (i : Nat) : PE := l.getD i ⟨⟨#[]⟩, ⟨#[]⟩, ⟨#[]⟩, 0, []⟩
def zce (l : List PE) (i : Nat) : List NtP := (l.take i).flatMap PE.nets
def zdJ (k : ByteArray) (l : List PE) (i : Nat) : Int :=
 if peE (peG l i) ≠ 0 then peE (peG l i) else if (0 < i ∧ leK (peG l i).key (peG l (i - 1)).key = true) ∨ (peG l i).key = k then 6
 else if dupN (zce l i) (peG l i).nets = true then 6 else 0
def cfE (c : CF) : Int :=
 if c.key ≠ ⟨#[]⟩ ∧ keyE c.key ≠ 0 then keyE c.key else if c.port < 0 ∨ 65535 < c.port then 4 else if 6 < c.ps.length then 1 else fnz (zdJ c.key c.ps) c.ps.length
theorem zcd {l : List PE} {i : Nat} {p : PE} (h : l[i]? = some p) : peG l i = p := by unfold peG; rw [List.getD_eq_getElem?_getD, h]; rfl
theorem zf1 {l : List PE} {i : Nat} {p : PE} (h : l[i]? = some p) : zce l (i + 1) = zce l i ++ p.nets := by
 obtain ⟨h1, h2⟩ := qaG.1 h
 unfold zce
 exact jbP
theorem netsB_len {l : List PE} {i : Nat} (h : ∀ j, j < i → (peG l j).nets.length ≤ 8) (hi : i ≤ l.length) : (zce l i).length ≤ 8 * i := by
 induction i with
 | zero => simp [zce]
 | succ i ih =>
  have hi' : l[i]? = some l[i] := List.getElem?_eq_getElem qk
  rw [zf1 hi', qaC]
  have h1 := ih (fun j hj => h j qk) qk
  have h2 := h i qk
  rw [zcd hi'] at h2
  omega
theorem zcJ {p : PE} (h : peE p = 0) : p.nets.length ≤ 8 ∧ keyE p.key = 0 := by
 unfold peE at h
 split at h
 ·exact absurd h qP
 rename_i h1
 split at h
 ·rename_i h2; exact absurd h h2.2
 split at h
 ·cases h
 split at h
 ·rename_i h2; exact absurd h h2.2
 split at h
 ·cases h
 split at h
 ·cases h
 exact ⟨qk, qaH.1 h1⟩
end Go.Proofs.YtlfjpippeeikdaaGreatDoor
namespace Go.Proofs.YtlfjpippeeikdaaGreatDoor
open Tryz
open Go.RowKit Go.Sort
set_option maxRecDepth 100000
noncomputable def peB (x y : PE) : Bool := (((decide (x.key = y.key) && decide (x.sh = y.sh)) && decide (x.ep = y.ep)) && (x.al == y.al)) && eqB x.nets y.nets
theorem peB_iff {x y : PE} : peB x y = true ↔ x = y := by
 obtain ⟨a, b, c, d, e⟩ := x
 obtain ⟨a', b', c', d', e'⟩ := y
 unfold peB
 simp [zgb, and_assoc]
theorem peB_T {x y : PE} (h : x = y) : peB x y = true := peB_iff.2 h
theorem peB_F {x y : PE} (h : x ≠ y) : peB x y = false := by
 cases hq : peB x y with
 | false => rfl
 | true => exact absurd (peB_iff.1 hq) h
theorem pel_d (x y : PE) (hx : x.nets.length ≤ 1048576) (hy : y.nets.length ≤ 1048576) : Fn prog 52 [.agg x.cells, .agg y.cells] (qf (peB x y)) [] := by
 have hN := eqNets_d x.nets y.nets qk qk
 obtain ⟨k1, s1, e1, a1, n1⟩ := x
 obtain ⟨k2, s2, e2, a2, n2⟩ := y
 dsimp only at hN
 show Fn prog _ [.agg [qc k1, qc s1, qc e1, qd a1, .p (.sl n1.length 2 (n1.flatMap ntC))], .agg [qc k2, qc s2, qc e2, qd a2, .p (.sl n2.length 2 (n2.flatMap ntC))]] (qf ((((decide (k1 = k2) && decide (s1 = s2)) && decide (e1 = e2)) && (a1 == a2)) && eqB n1 n2)) _
 clear hx hy
 generalize eqB n1 n2 = bn at *
 generalize n1.flatMap ntC = L1 at *
 generalize n2.flatMap ntC = L2 at *
 generalize n1.length = c1 at *
 generalize n2.length = c2 at *
 refine fnI fun w0 A => ?_
 refine G [19, 2, 6, 2, 6, 2, 5] ?_
 refine mb2 _ rfl rfl (fun _ => zbl func53 rfl rfl (hN) qr rfl) (fun _ => trivial) ?_
 refine G [0, 2, 3, 9, 0] ?_
 exact yE
theorem pesl_d (l m : List PE) (hl : l.length ≤ 4611686018427387904) (hm : m.length ≤ 4611686018427387904) (okl : ∀ p ∈ l, p.OK ∧ p.nets.length ≤ 1048576) (okm : ∀ p ∈ m, p.OK ∧ p.nets.length ≤ 1048576) : Fn prog 51 [.p (.sl l.length 5 (l.flatMap PE.pv)), .p (.sl m.length 5 (m.flatMap PE.pv)), .fn 52 []] (qf (eqB l m)) [] := by
 by_cases hlen : l.length = m.length
 rotate_left
 ·rw [zgc (fun e => hlen (by rw [e]))]
  generalize l.flatMap PE.pv = L
  generalize m.flatMap PE.pv = M
  exact jaI
 obtain ⟨E, hE⟩ : ∃ E, eqB l m = E := ⟨_, rfl⟩
 rw [hE]
 refine fnI fun w0 A => ?_
 refine G [11, 3, 11] ?_
 refine zae (fun u st => ∃ i : Nat, u + i = l.length ∧ (∀ j, j < i → l[j]? = m[j]?) ∧ st = St.of [(1, .p (.sl m.length 5 (m.flatMap PE.pv))), (2, .fn 52 []), (15, .p (.sl l.length 5 (l.flatMap PE.pv))), (16, qd l.length), (17, qd i)] []) l.length ?_ ?_
 ·exact jav
 rintro u st ⟨i, hi, hf, rfl⟩
 refine G [5] ?_
 refine cX ?_ ?_ <;> intro h
 ·have hlt : i < l.length := by simp at h; omega
  clear h
  obtain ⟨x, hx⟩ : ∃ x, l[i]? = some x := ⟨l[i], List.getElem?_eq_getElem hlt⟩
  obtain ⟨y, hy⟩ : ∃ y, m[i]? = some y := ⟨m[i]'qk, List.getElem?_eq_getElem qk⟩
  have hch := zaj (f := PE.pv) (k := 5) (fun _ => rfl) hx
  have hle := zak (f := PE.pv) (k := 5) (fun _ => rfl) hlt
  have hch2 := zaj (f := PE.pv) (k := 5) (fun _ => rfl) hy
  have hle2 := zak (f := PE.pv) (k := 5) (fun _ => rfl) (show i < m.length by omega)
  have hbad := zg0 hx hy
  have hxy : x = y → l[i]? = m[i]? := fun e => by rw [hx, hy, e]
  have hxm := qaE hx
  have hym := qaE hy
  have hC := pel_d x y (okl x hxm).2 (okm y hym).2
  generalize l.flatMap PE.pv = L at *
  generalize m.flatMap PE.pv = M at *
  refine G [10] ?_
  refine jdZ (zac (Y := .agg x.cells) sz48 rfl rfl (qaB rfl)) ?_
  refine G [8] ?_
  refine jdZ (zac (Y := .agg y.cells) sz48 rfl rfl (qaB rfl)) ?_
  refine zag ?_
  by_cases he : x = y
  ·rw [peB_T he] at hC
   refine G [3] ?_
   refine jdF ?_
   exact jb5
  ·rw [zgc (hbad he)] at hE
   subst hE
   rw [peB_F he] at hC
   refine G [3] ?_
   refine jdF ?_
   exact jb4
 have hge : i = l.length := by simp at h; omega
 clear h
 subst hge
 rw [ziA (zg1 hlen hf)] at hE
 subst hE
 refine jcV ?_
 exact yE
noncomputable def cfB (c d : CF) : Bool := (decide (c.key = d.key) && (c.port == d.port)) && eqB c.ps d.ps
theorem zhG (c d : CF) (ok : c.OK) (od : d.OK) : Fn prog 24 [.agg c.cells, .agg d.cells] (qf (cfB c d)) [] := by
 have hQ := pesl_d c.ps d.ps (by have := ok.len; omega) (by have := od.len; omega) ok.ps od.ps
 obtain ⟨k1, p1, l1'⟩ := c
 obtain ⟨k2, p2, l2'⟩ := d
 dsimp only at hQ
 show Fn prog _ [.agg [qc k1, qd p1, .p (.sl l1'.length 5 (l1'.flatMap PE.pv))], .agg [qc k2, qd p2, .p (.sl l2'.length 5 (l2'.flatMap PE.pv))]] (qf ((decide (k1 = k2) && (p1 == p2)) && eqB l1' l2')) _
 clear ok od
 generalize eqB l1' l2' = bn at *
 generalize l1'.flatMap PE.pv = L1 at *
 generalize l2'.flatMap PE.pv = L2 at *
 generalize l1'.length = c1 at *
 generalize l2'.length = c2 at *
 refine fnI fun w0 A => ?_
 refine G [19, 2, 5] ?_
 refine mb2 _ rfl rfl (fun _ => zbl func51 rfl rfl (hQ) qr rfl) (fun _ => trivial) ?_
 refine G [0, 2, 3, 9, 0] ?_
 exact yE
end Go.Proofs.YtlfjpippeeikdaaGreatDoor
