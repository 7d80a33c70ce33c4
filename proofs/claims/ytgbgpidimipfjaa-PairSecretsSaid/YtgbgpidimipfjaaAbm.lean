/- Fields and elements of typed data. -/
import Derived.Test.YtgbgpidimipfjaaAbn
namespace Go.Proofs.Ytgbgpidimipfjaa
open Go.RowKit Go.Sort
set_option linter.unusedVariables false

def tyField (P : Program) (t i : Nat) : Option (Nat × TypeId × Nat) := match P.underlying t with
  | some (.struct fs) => if (tiles P fs.toList 0).isSome then fs[i]?.map fun f => (f.offset, f.type, P.cellsOf f.type) else none
  | _ => none
theorem tiles_le {P : Program} : ∀ (fs : List Field) (off n : Nat), tiles P fs off = some n → off ≤ n
  | [], off, n, h => by simp only [tiles, Option.some.injEq] at h; omega
  | g :: gs, off, n, h => by
    simp only [tiles] at h
    split at h
    · have := tiles_le gs _ _ h; omega
    · cases h
theorem flat_tiles {P : Program} {α : Type} : ∀ {fs : List Field} {L : List (List α)} {off m : Nat}, tiles P fs off = some m → (∀ (i : Nat) f x, fs[i]? = some f → L[i]? = some x → x.length = P.cellsOf f.type) → ∀ (i : Nat) f x, fs[i]? = some f → L[i]? = some x → off ≤ f.offset ∧ ∀ j, j < x.length → L.flatten[f.offset - off + j]? = x[j]?
  | [], _, _, _, _, _, i, f, x, h, _ => by simp at h
  | _ :: _, [], _, _, _, _, i, f, x, _, h => by simp at h
  | g :: gs, y :: L, off, m, ht, hs, i, f, x, h1, h2 => by
    simp only [tiles] at ht
    split at ht
    · rename_i hg
      have hy := hs 0 g y (by simp) (by simp)
      cases i with
      | zero =>
        simp only [List.getElem?_cons_zero, Option.some.injEq] at h1 h2
        subst h1 h2
        refine ⟨by omega, fun j hj => ?_⟩
        rw [hg, Nat.sub_self, Nat.zero_add, List.flatten_cons, List.getElem?_append_left hj]
      | succ i =>
        obtain ⟨h3, h4⟩ := flat_tiles ht (fun k f x a b => hs (k + 1) f x (by simpa using a) (by simpa using b)) i f x (by simpa using h1) (by simpa using h2)
        refine ⟨by omega, fun j hj => ?_⟩
        rw [List.flatten_cons, List.getElem?_append_right (by omega), ← h4 j hj]
        congr 1
        omega
    · cases ht
theorem ty_field {P : Program} {n t i off sz : Nat} {ft : TypeId} {ps : List PV} (h : tyField P t i = some (off, ft, sz)) (hT : Ty P (n + 1) t ps) : ∃ x, Ty P n ft x ∧ x.length = sz ∧ ∀ j, j < sz → ps[off + j]? = x[j]? := by
  unfold tyField at h
  unfold Ty at hT
  cases hu : P.underlying t with
  | none => simp [hu] at h
  | some u =>
    simp only [hu] at h hT
    cases u <;> simp at h
    rename_i fs
    obtain ⟨h0, f, h1, rfl, rfl, rfl⟩ := h
    obtain ⟨L, rfl, hl, hL⟩ := hT
    obtain ⟨m, hm⟩ := Option.isSome_iff_exists.1 h0
    have hi : i < fs.size := (Array.getElem?_eq_some_iff.1 h1).1
    have hx : L[i]? = some (L[i]'(by omega)) := List.getElem?_eq_getElem (by omega)
    have k := flat_tiles hm (fun k f x a b => (hL k f x (by simpa using a) b).2) i f _ (by simpa using h1) hx
    refine ⟨_, (hL i f _ h1 hx).1, (hL i f _ h1 hx).2, fun j hj => ?_⟩
    rw [← k.2 j (by rw [(hL i f _ h1 hx).2]; exact hj), Nat.sub_zero]
theorem ty_int {P : Program} {n t : Nat} {k : IntKind} {ps : List PV} (hu : P.underlying t = some (.int k)) (hT : Ty P (n + 1) t ps) : ∃ i, ps = [.v (.int k i)] ∧ (Lit.int k i).wf = true := by
  unfold Ty at hT; simpa only [hu] using hT
theorem ty_bool {P : Program} {n t : Nat} {ps : List PV} (hu : P.underlying t = some .bool) (hT : Ty P (n + 1) t ps) : ∃ b, ps = [.v (.bool b)] := by
  unfold Ty at hT; simpa only [hu] using hT
theorem ty_string {P : Program} {n t : Nat} {ps : List PV} (hu : P.underlying t = some .string) (hT : Ty P (n + 1) t ps) : ∃ s, ps = [.v (.string s)] ∧ s.size ≤ reachBytes := by
  unfold Ty at hT; simpa only [hu] using hT
theorem ty_slice {P : Program} {n t e sz : Nat} {ps : List PV} (hu : P.underlying t = some (.slice e)) (hs : P.cellsOf e = sz) (hT : Ty P (n + 1) t ps) : ∃ L : List (List PV), ps = [.sl L.length sz L.flatten] ∧ L.length ≤ maxLen ∧ ∀ x ∈ L, Ty P n e x ∧ x.length = sz := by
  unfold Ty at hT; subst hs; simp only [hu] at hT
  obtain ⟨L, h1, h2, h3⟩ := hT
  exact ⟨L, h1, h2.1, h3⟩
theorem ty_sliceS {P : Program} {n t e sz : Nat} {ps : List PV} (hu : P.underlying t = some (.slice e)) (hs : P.cellsOf e = sz) (hT : Ty P (n + 1) t ps) : ∃ L : List (List PV), ps = [.sl L.length sz L.flatten] ∧ L.length * P.bytesOf e ≤ reachBytes ∧ ∀ x ∈ L, Ty P n e x ∧ x.length = sz := by
  unfold Ty at hT; subst hs; simp only [hu] at hT
  obtain ⟨L, h1, h2, h3⟩ := hT
  exact ⟨L, h1, h2.2, h3⟩
theorem ty_array {P : Program} {n t m e sz : Nat} {ps : List PV} (hu : P.underlying t = some (.array m e)) (hs : P.cellsOf e = sz) (hT : Ty P (n + 1) t ps) : ∃ L : List (List PV), ps = L.flatten ∧ L.length = m ∧ ∀ x ∈ L, Ty P n e x ∧ x.length = sz := by
  unfold Ty at hT; subst hs; simpa only [hu] using hT
theorem wf_u8 {i : Int} (h : (Lit.int .u8 i).wf = true) : 0 ≤ i ∧ i < 256 := by
  simp [Lit.wf, IntKind.min, IntKind.max, IntKind.signed, IntKind.bits] at h
  omega
theorem wf_i64 {i : Int} (h : (Lit.int .i64 i).wf = true) : -9223372036854775808 ≤ i ∧ i ≤ 9223372036854775807 := by
  simp [Lit.wf, IntKind.min, IntKind.max, IntKind.signed, IntKind.bits] at h
  omega
theorem wf_u64 {i : Int} (h : (Lit.int .u64 i).wf = true) : 0 ≤ i ∧ i < 18446744073709551616 := by
  simp [Lit.wf, IntKind.min, IntKind.max, IntKind.signed, IntKind.bits] at h
  omega
theorem wf_u32 {i : Int} (h : (Lit.int .u32 i).wf = true) : 0 ≤ i ∧ i < 4294967296 := by
  simp [Lit.wf, IntKind.min, IntKind.max, IntKind.signed, IntKind.bits] at h
  omega
theorem bytes_flat {P : Program} {n e : Nat} (he : P.underlying e = some (.int .u8)) : ∀ {L : List (List PV)}, (∀ x ∈ L, Ty P (n + 1) e x) → ∃ xs : List Int, xs.length = L.length ∧ L.flatten = bs xs ∧ ∀ x ∈ xs, 0 ≤ x ∧ x < 256
  | [], _ => ⟨[], rfl, rfl, by simp⟩
  | x :: L, h => by
    obtain ⟨xs, h1, h2, h3⟩ := bytes_flat he (L := L) fun y hy => h y (by simp [hy])
    obtain ⟨i, rfl, hw⟩ := ty_int he (h x (by simp))
    refine ⟨i :: xs, by simp [h1], by rw [List.flatten_cons, h2]; rfl, fun y hy => ?_⟩
    rcases List.mem_cons.1 hy with rfl | hy
    · exact wf_u8 hw
    · exact h3 y hy
/-- a slice of bytes is bytes -/
theorem ty_bytes {P : Program} {n t e : Nat} {ps : List PV} (hu : P.underlying t = some (.slice e)) (he : P.underlying e = some (.int .u8)) (hs : P.cellsOf e = 1) (hT : Ty P (n + 2) t ps) : ∃ xs : List Int, ps = [.sl xs.length 1 (bs xs)] ∧ xs.length ≤ maxLen ∧ ∀ x ∈ xs, 0 ≤ x ∧ x < 256 := by
  obtain ⟨L, rfl, hl, h⟩ := ty_slice hu hs hT
  obtain ⟨xs, h1, h2, h3⟩ := bytes_flat he fun x hx => (h x hx).1
  exact ⟨xs, by rw [h1, h2], by omega, h3⟩
theorem ty_bytesS {P : Program} {n t e : Nat} {ps : List PV} (hu : P.underlying t = some (.slice e)) (he : P.underlying e = some (.int .u8)) (hs : P.cellsOf e = 1) (hb : P.bytesOf e = 1) (hT : Ty P (n + 2) t ps) : ∃ xs : List Int, ps = [.sl xs.length 1 (bs xs)] ∧ xs.length ≤ reachBytes ∧ ∀ x ∈ xs, 0 ≤ x ∧ x < 256 := by
  obtain ⟨L, rfl, hl, h⟩ := ty_sliceS hu hs hT
  obtain ⟨xs, h1, h2, h3⟩ := bytes_flat he fun x hx => (h x hx).1
  rw [hb, Nat.mul_one] at hl
  exact ⟨xs, by rw [h1, h2], by omega, h3⟩
/-- an array of bytes is bytes -/
theorem ty_bytesA {P : Program} {n t m e : Nat} {ps : List PV} (hu : P.underlying t = some (.array m e)) (he : P.underlying e = some (.int .u8)) (hs : P.cellsOf e = 1) (hT : Ty P (n + 2) t ps) : ∃ xs : List Int, ps = bs xs ∧ xs.length = m ∧ ∀ x ∈ xs, 0 ≤ x ∧ x < 256 := by
  obtain ⟨L, rfl, hl, h⟩ := ty_array hu hs hT
  obtain ⟨xs, h1, h2, h3⟩ := bytes_flat he fun x hx => (h x hx).1
  exact ⟨xs, h2, by omega, h3⟩
end Go.Proofs.Ytgbgpidimipfjaa
