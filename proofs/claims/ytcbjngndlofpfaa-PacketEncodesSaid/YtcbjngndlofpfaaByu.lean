/- More on slices of bytes: make, conversions from and to strings. -/
import Derived.Test.YtcbjngndlofpfaaByt
import Derived.Lib.ConvBytes
namespace Go.Proofs.Ytcbjngndlofpfaa
open Go.RowKit Go.Sort
set_option linter.unusedVariables false

/-- the bytes of a string -/
def strI (s : ByteArray) : List Int := s.data.toList.map fun c => ((c.toNat : Nat) : Int)
theorem strI_len (s : ByteArray) : (strI s).length = s.size := by simp [strI]
theorem strI_B (s : ByteArray) : isB (strI s) := by
  intro x hx
  simp [strI] at hx
  obtain ⟨c, _, rfl⟩ := hx
  have := c.toNat_lt
  omega

def bWorld (w : World) (s : ByteArray) : World := Lib.bytesWorld w 5 s
def bCap (w : World) (s : ByteArray) : Nat := grownCap w s.size 0 5
theorem run_conv (s : ByteArray) (w : World) : (convert 9 25 (.string s)).run Try.prog w = .ok (.slice (some ⟨w.heap.size, 0, none⟩) s.size (bCap w s)) (bWorld w s) :=
  Lib.run_convert_string_bytes w 9 25 5 s Try.underlying9 Try.underlying25 Try.underlying5
theorem bWorld_below (w : World) (s : ByteArray) : Below w.heap.size w (bWorld w s) := by
  refine ⟨rfl, rfl, rfl, ?_, fun k hk => Lib.bytesWorld_at_old w 5 s k hk⟩
  have := Lib.bytesWorld_size w 5 s
  unfold bWorld
  omega
theorem bWorld_byt (w : World) (s : ByteArray) : Byt (bWorld w s) (some ⟨w.heap.size, 0, none⟩) s.size (strI s) := by
  have hsz := Lib.bytesWorld_size w 5 s
  refine ⟨by rw [bv_len, strI_len]; omega, fun _ => ⟨_, rfl, by unfold bWorld; show w.heap.size < _; omega, fun j u hu => ?_⟩⟩
  rw [bv, List.getElem?_map, Option.map_eq_some_iff] at hu
  obtain ⟨x, hx, rfl⟩ := hu
  rw [strI, List.getElem?_map, Option.map_eq_some_iff] at hx
  obtain ⟨c, hc, rfl⟩ := hx
  have hj := (List.getElem?_eq_some_iff.1 hc).1
  have e : (⟨w.heap.size, 0, none⟩ : Addr).add j = ⟨w.heap.size, j, none⟩ := by rw [Go.WideShapes.add_plain]; simp
  rw [e]
  have := Lib.bytesWorld_cell w 5 s j (by simpa using hj)
  unfold bWorld
  rw [this, List.getD_eq_getElem?_getD, hc]
  rfl

theorem run_make0 (C : Int) (c : Nat) (hC : C = c) (hc : c ≤ 1000000) (w : World) :
    (Instr.makeSlice 25 (.int .i64 0) (.int .i64 C)).run Try.prog w = .ok (.slice (some ⟨w.heap.size, 0, none⟩) 0 c) (w.alloc (.cells (madeCells #[.int .u8 0] c) 5)) := by
  obtain ⟨i0, hi, hz0, hz1, hz2⟩ := info_parts info_u8
  subst hC
  have h := run_make (P := Try.prog) w 25 5 i0 (.int .u8 0) Try.underlying25 hi hz0 .i64 .i64 0 (c : Int) (by omega) (by omega) (by rw [hz2]; omega) (by omega)
  rw [h, hz1]
  simp [Value.cells]
theorem own_make0 (w : World) (c : Nat) (hc : c ≤ 1000000) : Own (w.alloc (.cells (madeCells #[.int .u8 0] c) 5)) w.heap.size (some ⟨w.heap.size, 0, none⟩) 0 c [] :=
  ⟨rfl, Nat.zero_le _, World.ownsRow_made w _ c (Nat.le_refl _) (by simp only [maxLen]; omega) (by simp [size_madeCells]), by simp⟩
theorem run_makeN (C : Int) (c : Nat) (hC : C = c) (hc : c ≤ 1000000) (w : World) :
    (Instr.makeSlice 25 (.int .i64 C) (.int .i64 C)).run Try.prog w = .ok (.slice (some ⟨w.heap.size, 0, none⟩) c c) (w.alloc (.cells (madeCells #[.int .u8 0] c) 5)) := by
  obtain ⟨i0, hi, hz0, hz1, hz2⟩ := info_parts info_u8
  subst hC
  have h := run_make (P := Try.prog) w 25 5 i0 (.int .u8 0) Try.underlying25 hi hz0 .i64 .i64 (c : Int) (c : Int) (by omega) (by omega) (by rw [hz2]; omega) (by omega)
  rw [h, hz1]
  simp [Value.cells]
theorem madeCells_u8 (c : Nat) : madeCells #[.int .u8 0] c = (bv (List.replicate c 0)).toArray := by
  apply Array.ext
  · simp [size_madeCells, bv]
  · intro i h1 h2
    have e : i % 1 = 0 := Nat.mod_one i
    simp [madeCells, bv, e]
theorem own_makeN (w : World) (c : Nat) (hc : c ≤ 1000000) : Own (w.alloc (.cells (madeCells #[.int .u8 0] c) 5)) w.heap.size (some ⟨w.heap.size, 0, none⟩) c c (List.replicate c 0) := by
  rw [madeCells_u8]
  have h := Own.mk_new w (List.replicate c 0) (by simpa using hc)
  simpa using h

theorem conv_back (w : World) (p : Option Addr) (n c : Nat) (xs : List Int) (h : Byt w p n xs) : (convert 25 9 (.slice p n c)).run Try.prog w = .ok (.string (strOfNums xs)) w :=
  (h.in_).convert (P := Try.prog) h.len c 25 5 9 Try.underlying25 Try.underlying5 Try.underlying9
section
variable {w : World} {B g : Nat} {p : Option Addr} {n c : Nat} {xs : List Int}
theorem Own.form (h : Own w B p n c xs) (hn : 0 < n) : ∃ g, p = some ⟨g, 0, none⟩ ∧ B ≤ g ∧ g < w.heap.size := by
  rcases h.row.2 with ⟨_, h0⟩ | ⟨g, cap, cur, e, hg, hh, _⟩
  · omega
  · have e1 : p = some ⟨g, 0, none⟩ := by injection e
    refine ⟨g, e1, hg, ?_⟩
    rcases Nat.lt_or_ge g w.heap.size with hlt | hge
    · exact hlt
    · rw [Array.getElem?_eq_none hge] at hh; cases hh
theorem Own.cell (h : Own w B (some ⟨g, 0, none⟩) n c xs) (k : Nat) (hk : k < n) : w.cell? ⟨g, k, none⟩ = some (.int .u8 (xs.getD k 0)) := by
  have hc : (Value.slice (some ⟨g, 0, none⟩) n c) = .slice (some ⟨g, 0, none⟩) n c := rfl
  rw [World.ownsRow.cellAt h.row k (by omega), bv, List.getElem?_map, List.getD_eq_getElem?_getD, List.getElem?_eq_getElem (show k < xs.length by have := h.len; omega)]
  rfl
theorem Own.free (h : Own w B (some ⟨g, 0, none⟩) n c xs) (k : Nat) : w.frozen? ⟨g, k, none⟩ = false := World.ownsRow.frozenAt h.row k
theorem Own.set_ (h : Own w B (some ⟨g, 0, none⟩) n c xs) (k : Nat) (v : Int) : Own (w.setCell ⟨g, k, none⟩ (.int .u8 v)) B (some ⟨g, 0, none⟩) n c (xs.set k v) := by
  have h1 := World.ownsRow.stored h.row k (.int .u8 v)
  refine ⟨by rw [List.length_set]; exact h.len, h.le, ?_, Nat.le_trans h.base h1.2.size⟩
  have e : bv (xs.set k v) = (bv xs).set k (.int .u8 v) := by simp [bv, List.map_set]
  rw [e]
  exact h1.1
end
end Go.Proofs.Ytcbjngndlofpfaa
