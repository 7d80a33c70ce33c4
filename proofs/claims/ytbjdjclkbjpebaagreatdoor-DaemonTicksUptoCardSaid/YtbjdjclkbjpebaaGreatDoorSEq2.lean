/- slices.Equal of rows of nets, of settings, of nodes: are two rows the same? Over data. -/
import Derived.Test.YtbjdjclkbjpebaaGreatDoorSBt1
import Derived.Test.YtbjdjclkbjpebaaGreatDoorSTw2
import Derived.Test.YtbjdjclkbjpebaaGreatDoorSCf1
import Derived.Test.YtbjdjclkbjpebaaGreatDoorSUtZ
namespace Go.Proofs.YtbjdjclkbjpebaaGreatDoor
open Tryz
open Go.RowKit Go.Sort
set_option linter.unusedVariables false
set_option linter.unusedSimpArgs false
set_option maxRecDepth 100000
noncomputable def eqB {α : Type} (x y : α) : Bool := @decide (x = y) (Classical.propDecidable _)
theorem zfO {α : Type} {x y : α} : eqB x y = true ↔ x = y := by unfold eqB; simp
theorem zhu {α : Type} {x y : α} (h : x = y) : eqB x y = true := zfO.2 h
theorem ze3 {α : Type} {x y : α} (h : x ≠ y) : eqB x y = false := by
 cases hq : eqB x y with
 | false => rfl
 | true => exact absurd (zfO.1 hq) h
theorem zgn {α : Type} (x : α) : eqB x x = true := zhu rfl
theorem zfW {α : Type} {l m : List α} {i : Nat} {x y : α} (h1 : l[i]? = some x) (h2 : m[i]? = some y) (h : x ≠ y) : l ≠ m := by
 rintro rfl
 rw [h1] at h2
 exact h (Option.some.inj h2)
theorem zfX {α : Type} {l m : List α} (h : l.length = m.length) (k : ∀ j, j < l.length → l[j]? = m[j]?) : l = m := by
 apply List.ext_getElem?
 intro j
 rcases Nat.lt_or_ge j l.length with hj | hj
 ·exact k j hj
 ·rw [List.getElem?_eq_none hj, List.getElem?_eq_none (by omega)]
theorem eqNets_d (l m : List NtP) (hl : l.length ≤ 4611686018427387904) (hm : m.length ≤ 4611686018427387904) : Fn prog 49 [.p (.sl l.length 2 (l.flatMap ntC)), .p (.sl m.length 2 (m.flatMap ntC))] (.p (.v (.bool (eqB l m)))) [] := by
 by_cases hlen : l.length = m.length
 rotate_left
 ·rw [ze3 (fun e => hlen (by rw [e]))]
  generalize l.flatMap ntC = L
  generalize m.flatMap ntC = M
  exact jay
 obtain ⟨E, hE⟩ : ∃ E, eqB l m = E := ⟨_, rfl⟩
 rw [hE]
 refine fnI fun w0 A => ?_
 refine G [11, 3, 11] ?_
 refine zag (fun u st => ∃ i : Nat, u + i = l.length ∧ (∀ j, j < i → l[j]? = m[j]?) ∧ st = St.of [(0, .p (.sl l.length 2 (l.flatMap ntC))), (1, .p (.sl m.length 2 (m.flatMap ntC))), (12, .p (.v (.int .i64 l.length))), (13, .p (.v (.int .i64 i)))] []) l.length ?_ ?_
 ·exact jas
 rintro u st ⟨i, hi, hf, rfl⟩
 refine G [5] ?_
 refine cX (fun h => ?_) fun h => ?_
 ·have hlt : i < l.length := by simp at h; omega
  clear h
  obtain ⟨x, hx⟩ : ∃ x, l[i]? = some x := ⟨l[i], List.getElem?_eq_getElem hlt⟩
  obtain ⟨y, hy⟩ : ∃ y, m[i]? = some y := ⟨m[i]'(by omega), List.getElem?_eq_getElem (by omega)⟩
  have hch := zar (f := ntC) (k := 2) (fun _ => rfl) hx
  have hle := zas (f := ntC) (k := 2) (fun _ => rfl) hlt
  have hch2 := zar (f := ntC) (k := 2) (fun _ => rfl) hy
  have hle2 := zas (f := ntC) (k := 2) (fun _ => rfl) (show i < m.length by omega)
  have hbad := zfW hx hy
  have hxy : x = y → l[i]? = m[i]? := fun e => by rw [hx, hy, e]
  generalize l.flatMap ntC = L at *
  generalize m.flatMap ntC = M at *
  obtain ⟨a1, b1⟩ := x
  obtain ⟨a2, b2⟩ := y
  refine G [8] ?_
  by_cases he : (⟨a1, b1⟩ : NtP) = ⟨a2, b2⟩
  ·refine G [10] ?_
   refine zaa (zaC U88 (xs := [.int .u32 a1, .int .i64 b1]) (ys := [.int .u32 a2, .int .i64 b2]) rfl rfl (by kernel_rfl) (by kernel_rfl) (by kernel_rfl) (c := false) (by rw [zaQ.2 (by simp at he; simp [he])]; rfl)) rfl rfl ?_
   refine jcq ?_
   exact jan
  ·rw [ze3 (hbad he)] at hE
   subst hE
   refine G [10] ?_
   refine zaa (zaC U88 (xs := [.int .u32 a1, .int .i64 b1]) (ys := [.int .u32 a2, .int .i64 b2]) rfl rfl (by kernel_rfl) (by kernel_rfl) (by kernel_rfl) (c := true) (by rw [zdM.2 (fun e => he (by simp at e; simp [e]))]; rfl)) rfl rfl ?_
   refine jcq ?_
   exact yE
 have hge : i = l.length := by simp at h; omega
 clear h
 subst hge
 rw [zhu (zfX hlen hf)] at hE
 subst hE
 refine jcs ?_
 exact yE
theorem eqSets_d (l m : List SE) (hl : l.length ≤ 4611686018427387904) (hm : m.length ≤ 4611686018427387904) : Fn prog 87 [.p (.sl l.length 5 (l.flatMap SE.pv)), .p (.sl m.length 5 (m.flatMap SE.pv))] (.p (.v (.bool (eqB l m)))) [] := by
 by_cases hlen : l.length = m.length
 rotate_left
 ·rw [ze3 (fun e => hlen (by rw [e]))]
  generalize l.flatMap SE.pv = L
  generalize m.flatMap SE.pv = M
  exact jay
 obtain ⟨E, hE⟩ : ∃ E, eqB l m = E := ⟨_, rfl⟩
 rw [hE]
 refine fnI fun w0 A => ?_
 refine G [8] ?_
 (first | refine zaa (zdu U27) rfl rfl ?_ | refine zaa (zfy U27) rfl rfl ?_)
 refine jco ?_
 (first | refine zaa (zdu U27) rfl rfl ?_ | refine zaa (zfy U27) rfl rfl ?_)
 refine G [0, 3, 11] ?_
 refine zag (fun u st => ∃ i : Nat, u + i = l.length ∧ (∀ j, j < i → l[j]? = m[j]?) ∧ st = St.of [(0, .p (.sl l.length 5 (l.flatMap SE.pv))), (1, .p (.sl m.length 5 (m.flatMap SE.pv))), (12, .p (.v (.int .i64 l.length))), (13, .p (.v (.int .i64 i)))] []) l.length ?_ ?_
 ·exact jas
 rintro u st ⟨i, hi, hf, rfl⟩
 refine G [5] ?_
 refine cX (fun h => ?_) fun h => ?_
 ·have hlt : i < l.length := by simp at h; omega
  clear h
  obtain ⟨x, hx⟩ : ∃ x, l[i]? = some x := ⟨l[i], List.getElem?_eq_getElem hlt⟩
  obtain ⟨y, hy⟩ : ∃ y, m[i]? = some y := ⟨m[i]'(by omega), List.getElem?_eq_getElem (by omega)⟩
  have hch := zar (f := SE.pv) (k := 5) (fun _ => rfl) hx
  have hle := zas (f := SE.pv) (k := 5) (fun _ => rfl) hlt
  have hch2 := zar (f := SE.pv) (k := 5) (fun _ => rfl) hy
  have hle2 := zas (f := SE.pv) (k := 5) (fun _ => rfl) (show i < m.length by omega)
  have hbad := zfW hx hy
  have hxy : x = y → l[i]? = m[i]? := fun e => by rw [hx, hy, e]
  generalize l.flatMap SE.pv = L at *
  generalize m.flatMap SE.pv = M at *
  obtain ⟨k1, t1, n1, a1, b1⟩ := x
  obtain ⟨k2, t2, n2, a2, b2⟩ := y
  refine G [8] ?_
  by_cases he : (⟨k1, t1, n1, a1, b1⟩ : SE) = ⟨k2, t2, n2, a2, b2⟩
  ·refine G [10] ?_
   refine zaa (zaC underlying121 (xs := [.int .i64 k1, .string t1, .int .i64 n1, .int .u32 a1, .int .i64 b1]) (ys := [.int .i64 k2, .string t2, .int .i64 n2, .int .u32 a2, .int .i64 b2]) rfl rfl (by kernel_rfl) (by kernel_rfl) (by kernel_rfl) (c := false) (by rw [zaQ.2 (by simp at he; simp [he])]; rfl)) rfl rfl ?_
   refine jcq ?_
   exact jan
  ·rw [ze3 (hbad he)] at hE
   subst hE
   refine G [10] ?_
   refine zaa (zaC underlying121 (xs := [.int .i64 k1, .string t1, .int .i64 n1, .int .u32 a1, .int .i64 b1]) (ys := [.int .i64 k2, .string t2, .int .i64 n2, .int .u32 a2, .int .i64 b2]) rfl rfl (by kernel_rfl) (by kernel_rfl) (by kernel_rfl) (c := true) (by rw [zdM.2 (fun e => he (by simp at e; simp [e]))]; rfl)) rfl rfl ?_
   refine jcq ?_
   exact yE
 have hge : i = l.length := by simp at h; omega
 clear h
 subst hge
 rw [zhu (zfX hlen hf)] at hE
 subst hE
 refine jcs ?_
 exact yE
theorem eqNodes_d (l m : List ND) (hl : l.length ≤ 4611686018427387904) (hm : m.length ≤ 4611686018427387904) : Fn prog 30 [.p (.sl l.length 4 (l.flatMap ND.pv)), .p (.sl m.length 4 (m.flatMap ND.pv))] (.p (.v (.bool (eqB l m)))) [] := by
 by_cases hlen : l.length = m.length
 rotate_left
 ·rw [ze3 (fun e => hlen (by rw [e]))]
  generalize l.flatMap ND.pv = L
  generalize m.flatMap ND.pv = M
  exact jay
 obtain ⟨E, hE⟩ : ∃ E, eqB l m = E := ⟨_, rfl⟩
 rw [hE]
 refine fnI fun w0 A => ?_
 refine G [8] ?_
 (first | refine zaa (zdu U25) rfl rfl ?_ | refine zaa (zfy U25) rfl rfl ?_)
 refine jco ?_
 (first | refine zaa (zdu U25) rfl rfl ?_ | refine zaa (zfy U25) rfl rfl ?_)
 refine G [0, 3, 11] ?_
 refine zag (fun u st => ∃ i : Nat, u + i = l.length ∧ (∀ j, j < i → l[j]? = m[j]?) ∧ st = St.of [(0, .p (.sl l.length 4 (l.flatMap ND.pv))), (1, .p (.sl m.length 4 (m.flatMap ND.pv))), (12, .p (.v (.int .i64 l.length))), (13, .p (.v (.int .i64 i)))] []) l.length ?_ ?_
 ·exact jas
 rintro u st ⟨i, hi, hf, rfl⟩
 refine G [5] ?_
 refine cX (fun h => ?_) fun h => ?_
 ·have hlt : i < l.length := by simp at h; omega
  clear h
  obtain ⟨x, hx⟩ : ∃ x, l[i]? = some x := ⟨l[i], List.getElem?_eq_getElem hlt⟩
  obtain ⟨y, hy⟩ : ∃ y, m[i]? = some y := ⟨m[i]'(by omega), List.getElem?_eq_getElem (by omega)⟩
  have hch := zar (f := ND.pv) (k := 4) (fun _ => rfl) hx
  have hle := zas (f := ND.pv) (k := 4) (fun _ => rfl) hlt
  have hch2 := zar (f := ND.pv) (k := 4) (fun _ => rfl) hy
  have hle2 := zas (f := ND.pv) (k := 4) (fun _ => rfl) (show i < m.length by omega)
  have hbad := zfW hx hy
  have hxy : x = y → l[i]? = m[i]? := fun e => by rw [hx, hy, e]
  generalize l.flatMap ND.pv = L at *
  generalize m.flatMap ND.pv = M at *
  obtain ⟨a1, n1, o1, s1⟩ := x
  obtain ⟨a2, n2, o2, s2⟩ := y
  refine G [8] ?_
  by_cases he : (⟨a1, n1, o1, s1⟩ : ND) = ⟨a2, n2, o2, s2⟩
  ·refine G [10] ?_
   refine zaa (zaC U90 (xs := [.int .u32 a1, .int .i64 n1, .string o1, .int .i64 s1]) (ys := [.int .u32 a2, .int .i64 n2, .string o2, .int .i64 s2]) rfl rfl (by kernel_rfl) (by kernel_rfl) (by kernel_rfl) (c := false) (by rw [zaQ.2 (by simp at he; simp [he])]; rfl)) rfl rfl ?_
   refine jcq ?_
   exact jan
  ·rw [ze3 (hbad he)] at hE
   subst hE
   refine G [10] ?_
   refine zaa (zaC U90 (xs := [.int .u32 a1, .int .i64 n1, .string o1, .int .i64 s1]) (ys := [.int .u32 a2, .int .i64 n2, .string o2, .int .i64 s2]) rfl rfl (by kernel_rfl) (by kernel_rfl) (by kernel_rfl) (c := true) (by rw [zdM.2 (fun e => he (by simp at e; simp [e]))]; rfl)) rfl rfl ?_
   refine jcq ?_
   exact yE
 have hge : i = l.length := by simp at h; omega
 clear h
 subst hge
 rw [zhu (zfX hlen hf)] at hE
 subst hE
 refine jcs ?_
 exact yE
end Go.Proofs.YtbjdjclkbjpebaaGreatDoor
namespace Go.Proofs.YtbjdjclkbjpebaaGreatDoor
open Go.RowKit Go.Sort
set_option linter.unusedVariables false
set_option linter.unusedSimpArgs false
set_option maxRecDepth 100000
structure CF where
 key : ByteArray
 port : Int
 ps : List PE
def cfC (key : ByteArray) (port : Int) (n : Nat) (L : List PV) : List AV := [.p (.v (.string key)), .p (.v (.int .i64 port)), .p (.sl n 5 L)]
def CF.cells (c : CF) : List AV := cfC c.key c.port c.ps.length (c.ps.flatMap PE.pv)
def CF.pv (c : CF) : List PV := [.v (.string c.key), .v (.int .i64 c.port), .sl c.ps.length 5 (c.ps.flatMap PE.pv)]
structure CF.OK (c : CF) : Prop where
 len : c.ps.length ≤ 1048576
 ps : ∀ p ∈ c.ps, p.OK ∧ p.nets.length ≤ 1048576
theorem PE.list_ty {n : Nat} {ps : List PV} (h : Ty Tryz.prog (n + 6) 22 ps) (hb : PV.bdL 1048576 ps) : ∃ l : List PE, (∀ p ∈ l, p.OK ∧ p.nets.length ≤ 1048576) ∧ l.length ≤ 1048576 ∧ ps = [.sl l.length 5 (l.flatMap PE.pv)] := by
 obtain ⟨L, rfl, h2, h3⟩ := zfd (sz := 5) U22 (by kernel_rfl) h
 simp only [PV.bdL, PV.bd, and_true] at hb
 obtain ⟨l, k1, k2, k3⟩ := zfG (f := PE.pv) (Q := fun p : PE => p.OK ∧ p.nets.length ≤ 1048576) (L := L) fun x hx => by
  have hbx := zbx hb.2 x hx
  obtain ⟨s, h4, h5⟩ := PE.of_ty (n := n) (h3 x hx).1 hbx
  rw [h5] at hbx
  simp only [PE.pv, PV.bdL, PV.bd] at hbx
  exact ⟨s, ⟨h4, hbx.2.2.2.2.1.1⟩, h5⟩
 exact jci
theorem CF.of_ty {n : Nat} {ps : List PV} (h : Ty Tryz.prog (n + 7) 24 ps) (hb : PV.bdL 1048576 ps) : ∃ c : CF, c.OK ∧ ps = c.pv := by
 obtain ⟨_, rfl, x0, _, rfl, t0, x1, _, rfl, t1, x2, _, rfl, t2, rfl⟩ := zbh (ts := [9, 3, 22]) (by kernel_rfl) h
 obtain ⟨a0, rfl, _⟩ := zbJ U9 t0
 obtain ⟨a1, rfl, _⟩ := zbm U3 t1
 obtain ⟨l, ok, hl, rfl⟩ := PE.list_ty t2 (zbx hb x2 (by simp))
 exact ⟨⟨a0, a1, l⟩, ⟨hl, ok⟩, rfl⟩
def dupN : List NtP → List NtP → Bool
 | _, [] => false
 | acc, n :: r => decide (n ∈ acc) || dupN (acc ++ [n]) r
def peG (l : List PE) (i : Nat) : PE := l.getD i ⟨⟨#[]⟩, ⟨#[]⟩, ⟨#[]⟩, 0, []⟩
def zcj (l : List PE) (i : Nat) : List NtP := (l.take i).flatMap PE.nets
def zej (k : ByteArray) (l : List PE) (i : Nat) : Int :=
 if peE (peG l i) ≠ 0 then peE (peG l i) else if (0 < i ∧ leK (peG l i).key (peG l (i - 1)).key = true) ∨ (peG l i).key = k then 6
 else if dupN (zcj l i) (peG l i).nets = true then 6 else 0
def cfE (c : CF) : Int :=
 if c.key ≠ ⟨#[]⟩ ∧ keyE c.key ≠ 0 then keyE c.key else if c.port < 0 ∨ 65535 < c.port then 4 else if 6 < c.ps.length then 1 else fnz (zej c.key c.ps) c.ps.length
theorem zgO {l : List PE} {i : Nat} {p : PE} (h : l[i]? = some p) : peG l i = p := by unfold peG; rw [List.getD_eq_getElem?_getD, h]; rfl
theorem zfJ {l : List PE} {i : Nat} {p : PE} (h : l[i]? = some p) : zcj l (i + 1) = zcj l i ++ p.nets := by
 obtain ⟨h1, h2⟩ := List.getElem?_eq_some_iff.1 h
 unfold zcj
 exact jbC
theorem netsB_len {l : List PE} {i : Nat} (h : ∀ j, j < i → (peG l j).nets.length ≤ 8) (hi : i ≤ l.length) : (zcj l i).length ≤ 8 * i := by
 induction i with
 | zero => simp [zcj]
 | succ i ih =>
  have hi' : l[i]? = some l[i] := List.getElem?_eq_getElem (by omega)
  rw [zfJ hi', List.length_append]
  have h1 := ih (fun j hj => h j (by omega)) (by omega)
  have h2 := h i (by omega)
  rw [zgO hi'] at h2
  omega
theorem zdo {p : PE} (h : peE p = 0) : p.nets.length ≤ 8 ∧ keyE p.key = 0 := by
 unfold peE at h
 split at h
 ·exact absurd h (by assumption)
 rename_i h1
 split at h
 ·rename_i h2; exact absurd h h2.2
 split at h
 ·cases h
 split at h
 ·rename_i h2; exact absurd h h2.2
 split at h
 ·cases h
 split at h
 ·cases h
 exact ⟨by omega, Decidable.not_not.1 h1⟩
end Go.Proofs.YtbjdjclkbjpebaaGreatDoor
namespace Go.Proofs.YtbjdjclkbjpebaaGreatDoor
open Tryz
open Go.RowKit Go.Sort
set_option linter.unusedVariables false
set_option linter.unusedSimpArgs false
set_option maxRecDepth 100000
noncomputable def peB (x y : PE) : Bool := (((decide (x.key = y.key) && decide (x.sh = y.sh)) && decide (x.ep = y.ep)) && (x.al == y.al)) && eqB x.nets y.nets
theorem peB_iff {x y : PE} : peB x y = true ↔ x = y := by
 obtain ⟨a, b, c, d, e⟩ := x
 obtain ⟨a', b', c', d', e'⟩ := y
 unfold peB
 simp [zfO, and_assoc]
theorem peB_T {x y : PE} (h : x = y) : peB x y = true := peB_iff.2 h
theorem peB_F {x y : PE} (h : x ≠ y) : peB x y = false := by
 cases hq : peB x y with
 | false => rfl
 | true => exact absurd (peB_iff.1 hq) h
theorem pel_d (x y : PE) (hx : x.nets.length ≤ 1048576) (hy : y.nets.length ≤ 1048576) : Fn prog 48 [.agg x.cells, .agg y.cells] (.p (.v (.bool (peB x y)))) [] := by
 have hN := eqNets_d x.nets y.nets (by omega) (by omega)
 obtain ⟨k1, s1, e1, a1, n1⟩ := x
 obtain ⟨k2, s2, e2, a2, n2⟩ := y
 dsimp only at hN
 show Fn prog _ [.agg [.p (.v (.string k1)), .p (.v (.string s1)), .p (.v (.string e1)), .p (.v (.int .i64 a1)), .p (.sl n1.length 2 (n1.flatMap ntC))], .agg [.p (.v (.string k2)), .p (.v (.string s2)), .p (.v (.string e2)), .p (.v (.int .i64 a2)), .p (.sl n2.length 2 (n2.flatMap ntC))]] (.p (.v (.bool ((((decide (k1 = k2) && decide (s1 = s2)) && decide (e1 = e2)) && (a1 == a2)) && eqB n1 n2)))) _
 clear hx hy
 generalize eqB n1 n2 = bn at *
 generalize n1.flatMap ntC = L1 at *
 generalize n2.flatMap ntC = L2 at *
 generalize n1.length = c1 at *
 generalize n2.length = c2 at *
 refine fnI fun w0 A => ?_
 refine G [19, 2, 6, 2, 6, 2, 5] ?_
 refine mb2 _ rfl rfl (fun _ => zbc func49 rfl rfl (hN) (by first | rfl | simp [AV.okInL, AV.okIn, zay]) rfl) (fun _ => trivial) ?_
 refine G [0, 2, 3, 9, 0] ?_
 exact yE
theorem pesl_d (l m : List PE) (hl : l.length ≤ 4611686018427387904) (hm : m.length ≤ 4611686018427387904) (okl : ∀ p ∈ l, p.OK ∧ p.nets.length ≤ 1048576) (okm : ∀ p ∈ m, p.OK ∧ p.nets.length ≤ 1048576) : Fn prog 47 [.p (.sl l.length 5 (l.flatMap PE.pv)), .p (.sl m.length 5 (m.flatMap PE.pv)), .fn 48 []] (.p (.v (.bool (eqB l m)))) [] := by
 by_cases hlen : l.length = m.length
 rotate_left
 ·rw [ze3 (fun e => hlen (by rw [e]))]
  generalize l.flatMap PE.pv = L
  generalize m.flatMap PE.pv = M
  exact jay
 obtain ⟨E, hE⟩ : ∃ E, eqB l m = E := ⟨_, rfl⟩
 rw [hE]
 refine fnI fun w0 A => ?_
 refine G [11, 3, 11] ?_
 refine zag (fun u st => ∃ i : Nat, u + i = l.length ∧ (∀ j, j < i → l[j]? = m[j]?) ∧ st = St.of [(1, .p (.sl m.length 5 (m.flatMap PE.pv))), (2, .fn 48 []), (15, .p (.sl l.length 5 (l.flatMap PE.pv))), (16, .p (.v (.int .i64 l.length))), (17, .p (.v (.int .i64 i)))] []) l.length ?_ ?_
 ·exact jas
 rintro u st ⟨i, hi, hf, rfl⟩
 refine G [5] ?_
 refine cX (fun h => ?_) fun h => ?_
 ·have hlt : i < l.length := by simp at h; omega
  clear h
  obtain ⟨x, hx⟩ : ∃ x, l[i]? = some x := ⟨l[i], List.getElem?_eq_getElem hlt⟩
  obtain ⟨y, hy⟩ : ∃ y, m[i]? = some y := ⟨m[i]'(by omega), List.getElem?_eq_getElem (by omega)⟩
  have hch := zar (f := PE.pv) (k := 5) (fun _ => rfl) hx
  have hle := zas (f := PE.pv) (k := 5) (fun _ => rfl) hlt
  have hch2 := zar (f := PE.pv) (k := 5) (fun _ => rfl) hy
  have hle2 := zas (f := PE.pv) (k := 5) (fun _ => rfl) (show i < m.length by omega)
  have hbad := zfW hx hy
  have hxy : x = y → l[i]? = m[i]? := fun e => by rw [hx, hy, e]
  have hxm := List.mem_of_getElem? hx
  have hym := List.mem_of_getElem? hy
  have hC := pel_d x y (okl x hxm).2 (okm y hym).2
  generalize l.flatMap PE.pv = L at *
  generalize m.flatMap PE.pv = M at *
  refine G [10] ?_
  refine jdA (zaf (Y := .agg x.cells) sz84 rfl rfl (Nat.eq_of_beq_eq_true rfl)) ?_
  refine G [8] ?_
  refine jdA (zaf (Y := .agg y.cells) sz84 rfl rfl (Nat.eq_of_beq_eq_true rfl)) ?_
  refine zac ?_
  by_cases he : x = y
  ·rw [peB_T he] at hC
   refine G [3] ?_
   refine jde ?_
   exact jcg
  ·rw [ze3 (hbad he)] at hE
   subst hE
   rw [peB_F he] at hC
   refine G [3] ?_
   refine jde ?_
   exact jbw
 have hge : i = l.length := by simp at h; omega
 clear h
 subst hge
 rw [zhu (zfX hlen hf)] at hE
 subst hE
 refine jcs ?_
 exact yE
noncomputable def cfB (c d : CF) : Bool := (decide (c.key = d.key) && (c.port == d.port)) && eqB c.ps d.ps
theorem zhC (c d : CF) (ok : c.OK) (od : d.OK) : Fn prog 16 [.agg c.cells, .agg d.cells] (.p (.v (.bool (cfB c d)))) [] := by
 have hQ := pesl_d c.ps d.ps (by have := ok.len; omega) (by have := od.len; omega) ok.ps od.ps
 obtain ⟨k1, p1, l1'⟩ := c
 obtain ⟨k2, p2, l2'⟩ := d
 dsimp only at hQ
 show Fn prog _ [.agg [.p (.v (.string k1)), .p (.v (.int .i64 p1)), .p (.sl l1'.length 5 (l1'.flatMap PE.pv))], .agg [.p (.v (.string k2)), .p (.v (.int .i64 p2)), .p (.sl l2'.length 5 (l2'.flatMap PE.pv))]] (.p (.v (.bool ((decide (k1 = k2) && (p1 == p2)) && eqB l1' l2')))) _
 clear ok od
 generalize eqB l1' l2' = bn at *
 generalize l1'.flatMap PE.pv = L1 at *
 generalize l2'.flatMap PE.pv = L2 at *
 generalize l1'.length = c1 at *
 generalize l2'.length = c2 at *
 refine fnI fun w0 A => ?_
 refine G [19, 2, 5] ?_
 refine mb2 _ rfl rfl (fun _ => zbc func47 rfl rfl (hQ) (by first | rfl | simp [AV.okInL, AV.okIn, zay]) rfl) (fun _ => trivial) ?_
 refine G [0, 2, 3, 9, 0] ?_
 exact yE
end Go.Proofs.YtbjdjclkbjpebaaGreatDoor
