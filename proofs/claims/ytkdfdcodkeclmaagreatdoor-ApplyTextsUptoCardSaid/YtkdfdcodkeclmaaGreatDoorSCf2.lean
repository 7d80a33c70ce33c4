/- A configuration, typed, as data; what conf.Check says of it. -/
import Derived.Test.YtkdfdcodkeclmaaGreatDoorSCf1
import Derived.Test.YtkdfdcodkeclmaaGreatDoorSUtZ
namespace Go.Proofs.YtkdfdcodkeclmaaGreatDoor
open Go.RowKit Go.Sort
set_option linter.unusedVariables false
set_option linter.unusedSimpArgs false
set_option maxRecDepth 100000
structure CF where
 key : ByteArray
 port : Int
 ps : List PE
def cfC (key : ByteArray) (port : Int) (n : Nat) (L : List PV) : List AV := [.p (.v (.string key)), .p (.v (.int .i64 port)), .p (.sl n 5 L)]
def CF.cells (c : CF) : List AV := cfC c.key c.port c.ps.length (c.ps.flatMap PE.pv)
def CF.pv (c : CF) : List PV := [.v (.string c.key), .v (.int .i64 c.port), .sl c.ps.length 5 (c.ps.flatMap PE.pv)]
structure CF.OK (c : CF) : Prop where
 len : c.ps.length ≤ 1048576
 ps : ∀ p ∈ c.ps, p.OK ∧ p.nets.length ≤ 1048576
theorem PE.list_ty {n : Nat} {ps : List PV} (h : Ty Tryz.prog (n + 6) 22 ps) (hb : PV.bdL 1048576 ps) : ∃ l : List PE, (∀ p ∈ l, p.OK ∧ p.nets.length ≤ 1048576) ∧ l.length ≤ 1048576 ∧ ps = [.sl l.length 5 (l.flatMap PE.pv)] := by
 obtain ⟨L, rfl, h2, h3⟩ := ty_slice (sz := 5) U22 (by kernel_rfl) h
 simp only [PV.bdL, PV.bd, and_true] at hb
 obtain ⟨l, k1, k2, k3⟩ := zgA (f := PE.pv) (Q := fun p : PE => p.OK ∧ p.nets.length ≤ 1048576) (L := L) fun x hx => by
  have hbx := zeV hb.2 x hx
  obtain ⟨s, h4, h5⟩ := PE.of_ty (n := n) (h3 x hx).1 hbx
  rw [h5] at hbx
  simp only [PE.pv, PV.bdL, PV.bd] at hbx
  exact ⟨s, ⟨h4, hbx.2.2.2.2.1.1⟩, h5⟩
 exact ⟨l, k3, by rw [k1]; exact hb.1, by rw [k1, k2]⟩
theorem CF.of_ty {n : Nat} {ps : List PV} (h : Ty Tryz.prog (n + 7) 24 ps) (hb : PV.bdL 1048576 ps) : ∃ c : CF, c.OK ∧ ps = c.pv := by
 obtain ⟨_, rfl, x0, _, rfl, t0, x1, _, rfl, t1, x2, _, rfl, t2, rfl⟩ := zdk (ts := [9, 3, 22]) (by kernel_rfl) h
 obtain ⟨a0, rfl, _⟩ := zcQ U9 t0
 obtain ⟨a1, rfl, _⟩ := zeZ U3 t1
 obtain ⟨l, ok, hl, rfl⟩ := PE.list_ty t2 (zeV hb x2 (by simp))
 exact ⟨⟨a0, a1, l⟩, ⟨hl, ok⟩, rfl⟩
def dupN : List NtP → List NtP → Bool
 | _, [] => false
 | acc, n :: r => decide (n ∈ acc) || dupN (acc ++ [n]) r
def peG (l : List PE) (i : Nat) : PE := l.getD i ⟨⟨#[]⟩, ⟨#[]⟩, ⟨#[]⟩, 0, []⟩
def zcc (l : List PE) (i : Nat) : List NtP := (l.take i).flatMap PE.nets
def zdi (k : ByteArray) (l : List PE) (i : Nat) : Int :=
 if peE (peG l i) ≠ 0 then peE (peG l i) else if (0 < i ∧ leK (peG l i).key (peG l (i - 1)).key = true) ∨ (peG l i).key = k then 6
 else if dupN (zcc l i) (peG l i).nets = true then 6 else 0
def cfE (c : CF) : Int :=
 if c.key ≠ ⟨#[]⟩ ∧ keyE c.key ≠ 0 then keyE c.key else if c.port < 0 ∨ 65535 < c.port then 4 else if 6 < c.ps.length then 1 else fnz (zdi c.key c.ps) c.ps.length
theorem zbY {l : List PE} {i : Nat} {p : PE} (h : l[i]? = some p) : peG l i = p := by unfold peG; rw [List.getD_eq_getElem?_getD, h]; rfl
theorem zeM {l : List PE} {i : Nat} {p : PE} (h : l[i]? = some p) : zcc l (i + 1) = zcc l i ++ p.nets := by
 obtain ⟨h1, h2⟩ := List.getElem?_eq_some_iff.1 h
 unfold zcc
 rw [List.take_succ_eq_append_getElem h1, h2, List.flatMap_append]
 simp
theorem netsB_len {l : List PE} {i : Nat} (h : ∀ j, j < i → (peG l j).nets.length ≤ 8) (hi : i ≤ l.length) : (zcc l i).length ≤ 8 * i := by
 induction i with
 | zero => simp [zcc]
 | succ i ih =>
  have hi' : l[i]? = some l[i] := List.getElem?_eq_getElem (by omega)
  rw [zeM hi', List.length_append]
  have h1 := ih (fun j hj => h j (by omega)) (by omega)
  have h2 := h i (by omega)
  rw [zbY hi'] at h2
  omega
theorem zfg {p : PE} (h : peE p = 0) : p.nets.length ≤ 8 ∧ keyE p.key = 0 := by
 unfold peE at h
 split at h
 ·exact absurd h (by assumption)
 rename_i h1
 split at h
 ·rename_i h2; exact absurd h h2.2
 split at h
 ·cases h
 split at h
 ·rename_i h2; exact absurd h h2.2
 split at h
 ·cases h
 split at h
 ·cases h
 exact ⟨by omega, Decidable.not_not.1 h1⟩
end Go.Proofs.YtkdfdcodkeclmaaGreatDoor
